/- QutB, QutD, QutS, ItoA, QutK, CmpK -/
import Derived.Test.YtnhnmigafkodfaaGreatDoorB
import Derived.Test.YtnhnmigafkodfaaGreatDoorProg
import Derived.Tactics
import Derived.Tactics2
import Derived.Defers
import Derived.Laws.Pointers
import Derived.Laws.LoneSync
import Derived.RegionTactic
import Derived.RegionCalls
import Derived.ChangeAlike
import Derived.KernelRfl
import Derived.Shelf.Strings.Count
import Derived.Shelf.Strconv.Itoa3
import Derived.Test.YtnhnmigafkodfaaGreatDoorY
import Derived.Test.YtnhnmigafkodfaaGreatDoorZ
import Derived.Test.YtnhnmigafkodfaaGreatDoorX
set_option linter.all false
set_option maxRecDepth 100000
set_option maxHeartbeats 2000000

section
namespace Go.Proofs
open Go
theorem Tryz.disable (w:World):(callFunc 254 #[]).run Tryz.prog w=.ok (.value (.tuple #[])) w:=run_call_mark0 Tryz.func254 (by kernel_rfl) (by kernel_rfl) (by kernel_rfl) .disable (by kernel_rfl) w
theorem Tryz.enable (w:World):(callFunc 256 #[]).run Tryz.prog w=.ok (.value (.tuple #[])) w:=run_call_mark0 Tryz.func256 (by kernel_rfl) (by kernel_rfl) (by kernel_rfl) .enable (by kernel_rfl) w
theorem Tryz.acquire (a:Addr)(w:World):(callFunc 257 #[.pointer (some a)]).run Tryz.prog w=.ok (.value (.tuple #[])) w:=run_call_marked Tryz.func257 (by kernel_rfl) (by kernel_rfl) (by kernel_rfl) .acquire (by kernel_rfl) a w
theorem Tryz.releaseMerge (a:Addr)(w:World):(callFunc 259 #[.pointer (some a)]).run Tryz.prog w=.ok (.value (.tuple #[])) w:=run_call_marked Tryz.func259 (by kernel_rfl) (by kernel_rfl) (by kernel_rfl) .releaseMerge (by kernel_rfl) a w
theorem Tryz.store_deferred (a:Addr)(x:Value)(u:FrameMode)(w:World)(hc:w.cell? a=some x)(hz:w.frozen? a=false) :
  CallsD Tryz.prog 191 #[.pointer (some a),.bool true] u w fun e u' w'=>u'=u∧(e=.returned (.tuple #[])∧w'=w.drew.setCell a (.int .u32 1)):=by
 have hc':w.drew.cell? a=some x:=by go_simp
 have hz':w.drew.frozen? a=false:=by go_simp
 have hst:=run_call_store (P:=Tryz.prog) Tryz.func224 (by kernel_rfl) (by kernel_rfl) (by kernel_rfl) (by kernel_rfl) (k:=.u32) (y:=1) hc' hz'
 go_enter_d Tryz.func191,Tryz.ntmps191
 go_wp2
 go_region_calls
 all_goals (go_end0;exact⟨rfl,rfl⟩)
theorem Tryz.unlock_deferred (a:Addr)(u:FrameMode)(w:World)(hc:w.cell? a=some (.int .i32 1))(hz:w.frozen? a=false) :
  CallsD Tryz.prog 190 #[.pointer (some a)] u w fun e u' w'=>u'=u∧(e=.returned (.tuple #[])∧w'=w.setCell a (.int .i32 0)):=by
 have hd:=Tryz.disable
 have he:=Tryz.enable
 have hr:=Tryz.releaseMerge
 have hadd:=run_call_add (P:=Tryz.prog) Tryz.func260 (by kernel_rfl) (by kernel_rfl) (by kernel_rfl) .i32 (by kernel_rfl) (y:=-1) (s:=0) hc hz (by simp[go_sem];rfl)
 have hcv:=run_convert_to_unsafe (P:=Tryz.prog) (src:=260) (dst:=191) Tryz.underlying260 Tryz.underlying191 (by kernel_rfl) hc
 go_enter_d Tryz.func190,Tryz.ntmps190
 go_wp2
 go_end0
 go_wp2
 go_end0
 exact⟨rfl,rfl⟩
theorem Tryz.lock_free (a:Addr)(w:World)(hc:w.cell? a=some (.int .i32 0))(hz:w.frozen? a=false) :
  Calls Tryz.prog 189 #[.pointer (some a)] w fun e w'=>e=.returned (.tuple #[])∧w'=w.setCell a (.int .i32 1):=by
 have hd:=Tryz.disable
 have he:=Tryz.enable
 have ha:=Tryz.acquire
 have hcas:=run_call_cas_hit (P:=Tryz.prog) Tryz.func255 (by kernel_rfl) (by kernel_rfl) (by kernel_rfl) .i32 (by kernel_rfl) (y:=1) hc hz
 have hc':(w.setCell a (.int .i32 1)).cell? a=some (.int .i32 1):=World.cell?_setCell_same w a _ hc
 have hcv:=run_convert_to_unsafe (P:=Tryz.prog) (src:=260) (dst:=191) Tryz.underlying260 Tryz.underlying191 (by kernel_rfl) hc'
 go_enter Tryz.func189,Tryz.ntmps189
 go_wp2
 first|go_end0|(simp only[Exit.inBlock,Exit.then];refine bodyPost_ret (results_none rfl _ _ _) rfl ?_)|refine bodyPost_ret (results_none rfl _ _ _) rfl ?_
 go_wp2
 go_end0
 exact⟨rfl,rfl⟩
end Go.Proofs
end

section
namespace Go.Proofs
open Go
def OnceAt (w:World)(b off:Nat)(d s:Int):Prop:=w.cell? ⟨b,off,none⟩=some (.int .u32 d)∧w.cell? ⟨b,off+1,none⟩=some (.int .i32 s)∧w.frozen? ⟨b,off,none⟩=false∧w.frozen? ⟨b,off+1,none⟩=false
theorem Tryz.once_slow (b off:Nat)(r:Addr)(w:World)(h:OnceAt w b off 0 0){Post:World→Prop}
  (hf:Calls Tryz.prog 92 #[.pointer (some r)] (w.setCell ⟨b,off+1,none⟩ (.int .i32 1)) fun e w2=>e=.returned (.tuple #[])∧OnceAt w2 b off 0 1∧Post w2) :
  Calls Tryz.prog 157 #[.pointer (some ⟨b,off,none⟩),.func (.func 92) #[.pointer (some r)] #[]] w fun e w'=>e=.returned (.tuple #[]) ∧
   ∃w2,Post w2∧OnceAt w2 b off 0 1∧w'=(w2.drew.setCell ⟨b,off,none⟩ (.int .u32 1)).setCell ⟨b,off+1,none⟩ (.int .i32 0):=by
 obtain⟨h0,h1,f0,f1⟩:=h
 have hl:=run_call_load (P:=Tryz.prog) Tryz.func188 (by kernel_rfl) (by kernel_rfl) (by kernel_rfl) .u32 (by kernel_rfl) (w:=w.setCell ⟨b,off+1,none⟩ (.int .i32 1)) (a:=⟨b,off,none⟩) (x:=0) ((World.cell?_setCell_other _ ⟨b,off+1,none⟩ ⟨b,off,none⟩ _ (by simp)).trans h0)
 have hnot:∀(x:Bool) (w:World),(Op.unary .not (.bool x)).run Tryz.prog w=.ok (.bool (!x)) w:=fun _ _=>rfl
 go_enter_defers Tryz.func157,Tryz.ntmps157
 go_wp2_with (first|(go_at_call 189;refine(Tryz.lock_free ⟨b,off+1,none⟩ _ (by go_simp) (by go_simp)).mono ?_;rintro e w' ⟨rfl,rfl⟩)|(go_at_call 92;refine hf.mono ?_;rintro e w2 ⟨rfl,⟨k0,k1,z0,z1⟩,hP⟩)|(go_at_call 156;go_in))
 go_wp2
 refine leaves_cons (f:=191) (args:=#[.pointer (some ⟨b,off,none⟩),.bool true]) (by simp) (by simp[go_sem]) ?_
 refine(Tryz.store_deferred ⟨b,off,none⟩ (.int .u32 0) .returning _ k0 z0).mono ?_
 rintro e u' w'' ⟨rfl,rfl,rfl⟩
 refine leaves_cons (f:=190) (args:=#[.pointer (some ⟨b,off+1,none⟩)]) (by simp[settle]) (by simp[go_sem]) ?_
 refine(Tryz.unlock_deferred ⟨b,off+1,none⟩ _ _ ?_ (by simp[z1])).mono ?_
 ·refine(World.cell?_setCell_other _ ⟨b,off,none⟩ ⟨b,off+1,none⟩ _ (by simp)).trans ?_
  rw[World.cell?_drew]
  exact k1
 rintro e u' w'' ⟨rfl,rfl,rfl⟩
 simp[Leaves,settle,results,Tryz.results157]
 exact⟨w2,hP,⟨k0,k1,z0,z1⟩,rfl⟩
theorem Tryz.once_do (b off:Nat)(r:Addr)(w:World)(h:OnceAt w b off 0 0){Post:World→Prop}
  (hf:Calls Tryz.prog 92 #[.pointer (some r)] (w.setCell ⟨b,off+1,none⟩ (.int .i32 1)) fun e w2=>e=.returned (.tuple #[])∧OnceAt w2 b off 0 1∧Post w2) :
  Calls Tryz.prog 91 #[.pointer (some ⟨b,off,none⟩),.func (.func 92) #[.pointer (some r)] #[]] w fun e w'=>e=.returned (.tuple #[]) ∧
   ∃w2,Post w2∧OnceAt w2 b off 0 1∧w'=(w2.drew.setCell ⟨b,off,none⟩ (.int .u32 1)).setCell ⟨b,off+1,none⟩ (.int .i32 0):=by
 have hl:=run_call_load (P:=Tryz.prog) Tryz.func188 (by kernel_rfl) (by kernel_rfl) (by kernel_rfl) .u32 (by kernel_rfl) h.1
 have hnot:∀(x:Bool) (w:World),(Op.unary .not (.bool x)).run Tryz.prog w=.ok (.bool (!x)) w:=fun _ _=>rfl
 go_enter Tryz.func91,Tryz.ntmps91
 go_wp2_with (first|(go_at_call 157;refine(Tryz.once_slow b off r _ h hf).mono ?_;rintro e w' ⟨rfl,hP⟩)|(go_at_call 156;go_in))
 go_end0
 exact⟨rfl,hP⟩
end Go.Proofs
end

section
namespace Go.Proofs
open Go.Shelf
def Tryz.laysM171_ren:Go.Shelf.Ren:=⟨fun|171=>141|243=>184|246=>221|283=>250|284=>251|285=>252|286=>253|129=>125|317=>277|318=>278|319=>279|320=>280|337=>301|338=>302|n=>n,fun|3=>3|9=>9|2=>2|4=>4|171=>256|0=>0|53=>164|37=>111|5=>5|173=>258|212=>277|51=>128|20=>20|213=>278|46=>101|232=>286|233=>287|n=>n,fun|17=>5|18=>6|19=>7|n=>n⟩
theorem Tryz.laysM171:Go.Proofs.LaysM.n171 Tryz.prog Tryz.laysM171_ren:={
 mixed:=by kernel_rfl
 f129:=Tryz.func125.trans (congrArg some (by kernel_rfl))
 f171:=Tryz.func141.trans (congrArg some (by kernel_rfl))
 f243:=Tryz.func184.trans (congrArg some (by kernel_rfl))
 f246:=Tryz.func221.trans (congrArg some (by kernel_rfl))
 f283:=Tryz.func250.trans (congrArg some (by kernel_rfl))
 f284:=Tryz.func251.trans (congrArg some (by kernel_rfl))
 f285:=Tryz.func252.trans (congrArg some (by kernel_rfl))
 f286:=Tryz.func253.trans (congrArg some (by kernel_rfl))
 f317:=Tryz.func277.trans (congrArg some (by kernel_rfl))
 f318:=Tryz.func278.trans (congrArg some (by kernel_rfl))
 f319:=Tryz.func279.trans (congrArg some (by kernel_rfl))
 f320:=Tryz.func280.trans (congrArg some (by kernel_rfl))
 f337:=Tryz.func301.trans (congrArg some (by kernel_rfl))
 f338:=Tryz.func302.trans (congrArg some (by kernel_rfl))
 t0:=Tryz.underlying0
 a0:=Tryz.isAgg0
 z0:=Tryz.sizeOf0
 v0:=Tryz.zeroValue0
 t2:=Tryz.underlying2
 a2:=Tryz.isAgg2
 z2:=Tryz.sizeOf2
 v2:=Tryz.zeroValue2
 t3:=Tryz.underlying3
 a3:=Tryz.isAgg3
 z3:=Tryz.sizeOf3
 v3:=Tryz.zeroValue3
 t4:=Tryz.underlying4
 a4:=Tryz.isAgg4
 z4:=Tryz.sizeOf4
 v4:=Tryz.zeroValue4
 t5:=Tryz.underlying5
 a5:=Tryz.isAgg5
 z5:=Tryz.sizeOf5
 v5:=Tryz.zeroValue5
 t9:=Tryz.underlying9
 a9:=Tryz.isAgg9
 z9:=Tryz.sizeOf9
 v9:=Tryz.zeroValue9
 t20:=Tryz.underlying20
 a20:=Tryz.isAgg20
 z20:=Tryz.sizeOf20
 v20:=Tryz.zeroValue20
 t37:=Tryz.underlying111
 a37:=Tryz.isAgg111
 z37:=Tryz.sizeOf111
 v37:=Tryz.zeroValue111
 t46:=Tryz.underlying101
 a46:=Tryz.isAgg101
 z46:=Tryz.sizeOf101
 v46:=Tryz.zeroValue101
 t51:=Tryz.underlying128
 a51:=Tryz.isAgg128
 z51:=Tryz.sizeOf128
 v51:=Tryz.zeroValue128
 t53:=Tryz.underlying164
 a53:=Tryz.isAgg164
 z53:=Tryz.sizeOf164
 v53:=Tryz.zeroValue164
 t171:=Tryz.underlying256
 a171:=Tryz.isAgg256
 z171:=Tryz.sizeOf256
 v171:=Tryz.zeroValue256
 t173:=Tryz.underlying258
 a173:=Tryz.isAgg258
 z173:=Tryz.sizeOf258
 v173:=Tryz.zeroValue258
 t212:=Tryz.underlying277
 a212:=Tryz.isAgg277
 z212:=Tryz.sizeOf277
 v212:=Tryz.zeroValue277
 t213:=Tryz.underlying278
 a213:=Tryz.isAgg278
 z213:=Tryz.sizeOf278
 t232:=Tryz.underlying286
 a232:=Tryz.isAgg286
 z232:=Tryz.sizeOf286
 v232:=Tryz.zeroValue286
 t233:=Tryz.underlying287
 a233:=Tryz.isAgg287
 z233:=Tryz.sizeOf287
 v233:=Tryz.zeroValue287
 g17:=by kernel_rfl
 g18:=by kernel_rfl
 g19:=by kernel_rfl
 i0:=by kernel_rfl
 i2:=by kernel_rfl
 i3:=by kernel_rfl
 i4:=by kernel_rfl
 i5:=by kernel_rfl
 i9:=by kernel_rfl
 i20:=by kernel_rfl
 i37:=by kernel_rfl
 i46:=by kernel_rfl
 i51:=by kernel_rfl
 i53:=by kernel_rfl
 i171:=by kernel_rfl
 i173:=by kernel_rfl
 i212:=by kernel_rfl
 i232:=by kernel_rfl
 i233:=by kernel_rfl
 m17:=by kernel_rfl
 m18:=by kernel_rfl
 m19:=by kernel_rfl }
open Go.RowKit Go.Sort Go.Lib in
theorem Tryz.strconv_Itoa (n : Int) (h0 : -9223372036854775808 ≤ n) (h1 : n ≤ 9223372036854775807) (w : World) (htab : Lib.TabIs Tryz.prog w "internal/strconv.uint64pow10" .u64 Lib.pow10Tab) :
  Calls Tryz.prog 141 #[.int .i64 n] w fun e w'=>e=.returned (.string ⟨(Lib.itoa n).toArray⟩)∧∃k os,w'=grow (w.drewN k) os:=Any.strconv_Itoa Tryz.laysM171 n h0 h1 w htab
def Tryz.lays138_ren:Go.Shelf.Ren:=⟨fun|138=>343|195=>344|218=>345|143=>346|219=>347|217=>132|225=>348|224=>349|267=>350|266=>183|314=>351|n=>n,fun|9=>9|3=>3|4=>4|5=>5|0=>0|46=>101|146=>315|51=>128|n=>n,fun|1=>2|n=>n⟩
theorem Tryz.lays138:Go.Proofs.Lays.n138 Tryz.prog Tryz.lays138_ren:={
 mixed:=by kernel_rfl
 f138:=Tryz.func343.trans (congrArg some (by kernel_rfl))
 f143:=Tryz.func346.trans (congrArg some (by kernel_rfl))
 f195:=Tryz.func344.trans (congrArg some (by kernel_rfl))
 f217:=Tryz.func132.trans (congrArg some (by kernel_rfl))
 f218:=Tryz.func345.trans (congrArg some (by kernel_rfl))
 f219:=Tryz.func347.trans (congrArg some (by kernel_rfl))
 f224:=Tryz.func349.trans (congrArg some (by kernel_rfl))
 f225:=Tryz.func348.trans (congrArg some (by kernel_rfl))
 f266:=Tryz.func183.trans (congrArg some (by kernel_rfl))
 f267:=Tryz.func350.trans (congrArg some (by kernel_rfl))
 f314:=Tryz.func351.trans (congrArg some (by kernel_rfl))
 t0:=Tryz.underlying0
 a0:=Tryz.isAgg0
 z0:=Tryz.sizeOf0
 v0:=Tryz.zeroValue0
 t3:=Tryz.underlying3
 a3:=Tryz.isAgg3
 z3:=Tryz.sizeOf3
 v3:=Tryz.zeroValue3
 t4:=Tryz.underlying4
 a4:=Tryz.isAgg4
 z4:=Tryz.sizeOf4
 v4:=Tryz.zeroValue4
 t5:=Tryz.underlying5
 a5:=Tryz.isAgg5
 z5:=Tryz.sizeOf5
 v5:=Tryz.zeroValue5
 t9:=Tryz.underlying9
 a9:=Tryz.isAgg9
 z9:=Tryz.sizeOf9
 v9:=Tryz.zeroValue9
 t46:=Tryz.underlying101
 a46:=Tryz.isAgg101
 z46:=Tryz.sizeOf101
 v46:=Tryz.zeroValue101
 t51:=Tryz.underlying128
 a51:=Tryz.isAgg128
 z51:=Tryz.sizeOf128
 v51:=Tryz.zeroValue128
 t146:=Tryz.underlying315
 a146:=Tryz.isAgg315
 z146:=Tryz.sizeOf315
 v146:=Tryz.zeroValue315
 g1:=by kernel_rfl }
open Go.RowKit Go.Lib in
theorem Tryz.strings_Count_one (s:ByteArray)(c:UInt8)(w:World) :
  Calls Tryz.prog 343 #[.string s,.string ⟨#[c]⟩] w fun e w'=>e=.returned (.int .i64 (Lib.countByte s.data.toList c))∧w'=w:=Any.strings_Count_one Tryz.lays138 s c w
end Go.Proofs
end

section
namespace ParF
open Go Go.Abs Go.Proofs Go.Sort
theorem drewN_heap (w:World):∀k,(w.drewN k).heap=w.heap∧(w.drewN k).os=w.os∧(w.drewN k).tape=w.tape∧(w.drewN k).output=w.output∧w.drawn≤(w.drewN k).drawn:=by
 intro k
 refine⟨by simp[World.drewN],by simp[World.drewN],by simp[World.drewN],by simp[World.drewN],by simp[World.drewN]⟩
theorem grow_res {W0:World}{L:Lay}{ow:Owns}{s:Heap}{w:World}(h:St W0 L ow s w)(k:Nat)(os:Array Obj){r:AV}{v:Value}(hr:Rel L r v)(ho:r.isOwn=false):Res W0 L ow w r s v (grow (w.drewN k) os):=by
 obtain⟨d1,d2,d3,d4,d5⟩:=drewN_heap w k
 have hh:∀b,b<w.heap.size→(grow (w.drewN k) os).heap[b]?=w.heap[b]?:=fun b hb=>by
  show ((w.drewN k).heap++os)[b]?=_
  rw[d1,Array.getElem?_append_left hb]
 have hs:w.heap.size≤(grow (w.drewN k) os).heap.size:=by
  show _≤((w.drewN k).heap++os).size
  rw[d1,Array.size_append];omega
 have hx:Ext L ow w L ow (grow (w.drewN k) os):=⟨.refl L,fun b hb=>⟨hb,fun _=>rfl,hh b (h.used b (by rw[hb];simp))⟩,⟨d2,d3,d4,hs,fun _=>d5⟩⟩
 refine⟨L,ow,hx,h.move (.refl L) rfl (fun b hb=>⟨rfl,fun _=>rfl,hh b (h.used b (by intro e;rw[e]at hb;cases hb))⟩) (fun b o v hS=>?_) (fun b hb=>Nat.lt_of_lt_of_le (h.used b hb) hs) h.base (h.below_ext hx),hr,.of_not ho⟩
 rw[cell?_of_heap (hh b (imm_lt h hS))]
 exact h.imm b o v hS
theorem dec_eq:∀(f n:Nat),n<10 ^ f→0<f→decA f n=Lib.decDigits n
 | 0,_,_,h=>by cases h
 | f+1,n,hn,_=>by
  rw[decA,Lib.decDigits]
  by_cases c:n<10
  ·rw[if_pos c,dif_pos c]
  ·rw[if_neg c,dif_neg c]
   have h1:n / 10<10 ^ f:=by
    rw[Nat.pow_succ]at hn
    exact Nat.div_lt_of_lt_mul (by omega)
   have h2:0<f:=by
    rcases Nat.eq_zero_or_pos f with e|e
    ·subst e;simp at hn;omega
    ·exact e
   rw[dec_eq f (n / 10) h1 h2]
theorem itoa_eq {n:Int}(h0:-9223372036854775808≤n)(h1:n≤9223372036854775807):itoaL n=Lib.itoa n:=by
 unfold itoaL Lib.itoa
 rw[dec_eq 20 n.natAbs (by have:(10:Nat) ^ 20=100000000000000000000:=rfl;omega) (by decide),dec_eq 20 n.toNat (by have:(10:Nat) ^ 20=100000000000000000000:=rfl;omega) (by decide)]
def PowTab (w : World) : Prop := Lib.TabIs Tryz.prog w "internal/strconv.uint64pow10" .u64 Lib.pow10Tab
theorem spec_itoa (W0:World)(hT:PowTab W0)(args:List AV)(s:Heap)(v:AV)(s':Heap)(h:eItoa args s=some (v,s')):CallSpec C W0 141 args s v s':=by
 intro L ow w cargs hg hst hargs
 unfold eItoa at h
 split at h
 ·rename_i n
  split at h
  ·rename_i hn
   cases h
   obtain⟨u1,rfl,k1⟩:=relL1 hargs
   cases k1
   refine(Tryz.strconv_Itoa n hn.1 hn.2 w (var_keep hT hst.below)).mono ?_
   rintro e w' ⟨rfl,k,os,rfl⟩
   rw[itoa_eq hn.1 hn.2]
   exact⟨_,rfl,grow_res hst k os (.str _) rfl⟩
  ·cases h
 ·cases h
end ParF
end

section
namespace QutF
open Go Go.Abs Go.Proofs ParF
theorem spec_count (C:Cfg)(hP:C.P=Tryz.prog)(W0:World)(args:List AV)(s:Heap)(v:AV)(s':Heap)(h:eCount args s=some (v,s')):CallSpec C W0 343 args s v s':=by
 intro L ow w cargs hg hst hargs
 unfold eCount at h
 split at h
 ·rename_i a c
  cases h
  obtain⟨u1,u2,rfl,k1,k2⟩:=relL2 hargs
  cases k1;cases k2
  rw[hP]
  refine(Tryz.strings_Count_one ⟨a.toArray⟩ c w).mono ?_
  rintro e w' ⟨rfl,rfl⟩
  exact⟨_,rfl,.same hst (.int _ _) (.of_not rfl)⟩
 ·cases h
theorem cellI_eq {k:IntKind}{n:Int}{a:AV}(h:cellI k n a=true):a=.int k n:=by
 unfold cellI at h
 split at h
 ·rw[Bool.and_eq_true,beq_iff_eq,beq_iff_eq]at h
  rw[h.1,h.2]
 ·cases h
theorem cell_of {l:List AV}{i:Nat}{k:IntKind}{n:Int}(h:(l[i]?).map (cellI k n)=some true):l[i]?=some (.int k n):=by
 rw[Option.map_eq_some_iff]at h
 obtain⟨a,h1,h2⟩:=h
 rw[h1,cellI_eq h2]
theorem mem_cell {W0:World}{L:Lay}{ow:Owns}{s:Heap}{w:World}(hst:St W0 L ow s w){i o:Nat}{cs:TypeId×List AV}(hcs:s[i]?=some cs)(hd:cs.1≠deadTy){k:IntKind}{n:Int}(h:cs.2[o]?=some (.int k n)) :
  L.live i=true∧w.cell? ⟨L.loc i,o,none⟩=some (.int k n)∧∀j,w.frozen? ⟨L.loc i,j,none⟩=false:=by
 have hne:cs.2≠[]:=by intro e;rw[e]at h;simp at h
 have hl:L.live i=true:=by rw[hst.live];exact has_of hcs hne
 have O:=hst.obj i cs hcs hne hd
 obtain⟨vs,js,⟨fz,hh⟩,hrel,h1,h2,h5⟩:=O.cells
 refine⟨hl,?_,fun j=>O.melt j⟩
 obtain⟨v,hv,hr⟩:=hrel.get o _ h
 cases hr
 have hlt:o<vs.length:=(List.getElem?_eq_some_iff.1 hv).1
 have:(vs++js)[o]?=some (.int k n):=by rw[List.getElem?_append_left hlt];exact hv
 simp only[World.cell?,hh]
 simpa using this
theorem spec_once (W0:World)(args:List AV)(s:Heap)(v:AV)(s':Heap)(h:eOnce args s=some (v,s')):CallSpec Cq W0 91 args s v s':=by
 intro L ow w cargs hg hst hargs
 unfold eOnce at h
 split at h
 case h_2=>cases h
 rename_i i j
 split at h
 case h_2=>cases h
 rename_i cs hcs
 split at h
 case isFalse=>cases h
 rename_i hc
 obtain⟨c1,rfl,c2,c3⟩:=hc
 split at h
 case h_2=>cases h
 rename_i s2 hden
 split at h
 case h_2=>cases h
 rename_i ds hds
 split at h
 case isFalse=>cases h
 rename_i hd
 obtain⟨d1,d2,d3⟩:=hd
 cases h
 have c2:=cell_of c2
 have c3:=cell_of c3
 have d2:=cell_of d2
 have d3:=cell_of d3
 have cd:cs.1≠deadTy:=by rw[c1];decide
 have dd:ds.1≠deadTy:=by rw[d1];decide
 obtain⟨hl,m0,mz⟩:=mem_cell hst hcs cd c2
 obtain⟨-,m1,-⟩:=mem_cell hst hcs cd c3
 obtain⟨u1,u2,rfl,k1,k2⟩:=relL2 hargs
 cases k1
 cases k2 with
 | fn _ _ _ vs ws g1 g2 =>
 cases g2
 cases g1 with
 | cons _ pv _ _ g1 g3 =>
 cases g3
 cases g1
 have hone:OnceAt w (L.loc i) 0 0 0:=⟨m0,m1,mz _,mz _⟩
 -- the lock
 have hlen:1+[Value.int .i32 1].length≤cs.2.length:=by
  have:=(List.getElem?_eq_some_iff.1 c3).1
  show 1+1≤_;omega
 obtain⟨-,-,k3⟩:=cells_res hst hcs hl cd (off:=1) (show RelL L [.int .i32 1] [.int .i32 1] from .cons _ _ _ _ (.int _ _) .nil) (fun u hu=>by rw[List.mem_singleton.1 hu];rfl) (fun u hu=>by rw[List.mem_singleton.1 hu];rfl) hlen
 obtain⟨L1,ow1,x1,st1,-,-⟩:=k3 .undef (.bool true) (.undef _) rfl
 have e1:(s.set i (cs.1,setL cs.2 1 [.int .i32 1]))=s.set i (140,cs.2.set 1 (.int .i32 1)):=by rw[c1];rfl
 rw[e1]at st1
 have D0:DOK Cq0 W0 (den Cq0 40):=den_ok (C:=Cq0) (fun g cs e=>by cases e) (by kernel_rfl) (fun g e args s v s' h1 h2 _=>by
  have h1:(if g=343 then some eCount else none)=some e:=h1
  split at h1
  ·rename_i hg;subst hg;cases h1
   exact spec_count Cq0 rfl W0 args s v s' h2
  ·cases h1) 40
 have hl1:L1.live i=true:=x1.le.live i hl
 have hb1:L1.loc i=L.loc i:=x1.le.loc i hl
 have hr1:RelL L1 [.ref i 0] [.pointer (some ⟨L.loc i,0,none⟩)]:=by
  rw[←hb1];exact .cons _ _ _ _ (.ref i 0 hl1) .nil
 have hcall:=D0 92 [.ref i 0] _ _ _ hden (by intro a ha;rw[List.mem_singleton.1 ha];rfl) L1 ow1 _ [.pointer (some ⟨L.loc i,0,none⟩)] ⟨fun g cs e=>(by cases e),x1.le.m.trans hg.2⟩ st1 hr1
 let Post:World→Prop:=fun w2=>∃L2 ow2,Ext L1 ow1 (w.setCells (L.loc i) 1 [.int .i32 1]) L2 ow2 w2∧St W0 L2 ow2 s2 w2
 have hf:Calls Tryz.prog 92 #[.pointer (some ⟨L.loc i,0,none⟩)] (w.setCell ⟨L.loc i,0+1,none⟩ (.int .i32 1)) fun e w2=>e=.returned (.tuple #[])∧OnceAt w2 (L.loc i) 0 0 1∧Post w2:=by
  refine hcall.mono ?_
  rintro e w2 ⟨cv,rfl,L2,ow2,x2,st2,r2,-⟩
  obtain⟨hl2,n0,nz⟩:=mem_cell st2 hds dd d2
  obtain⟨-,n1,-⟩:=mem_cell st2 hds dd d3
  have hb2:L2.loc i=L.loc i:=(x2.le.loc i hl1).trans hb1
  rw[hb2]at n0 n1 nz
  refine⟨?_,⟨n0,n1,nz _,nz _⟩,L2,ow2,x2,st2⟩
  cases r2 with
  | tup _ vs hv=>cases hv;rfl
 refine(Tryz.once_do (L.loc i) 0 ⟨L.loc i,0,none⟩ w hone hf).mono ?_
 rintro e w' ⟨rfl,w2,⟨L2,ow2,x2,st2⟩,-,rfl⟩
 have hl2:L2.live i=true:=x2.le.live i hl1
 have hb2:L2.loc i=L.loc i:=(x2.le.loc i hl1).trans hb1
 have hlen2:0+[Value.int .u32 1,.int .i32 0].length≤ds.2.length:=by
  have:=(List.getElem?_eq_some_iff.1 d3).1
  show 0+2≤_;omega
 obtain⟨-,-,k4⟩:=cells_res (drew_st st2) hds hl2 dd (off:=0) (show RelL L2 [.int .u32 1,.int .i32 0] [.int .u32 1,.int .i32 0] from .cons _ _ _ _ (.int _ _) (.cons _ _ _ _ (.int _ _) .nil))
  (fun u hu=>by simp at hu;rcases hu with rfl|rfl<;>rfl) (fun u hu=>by simp at hu;rcases hu with rfl|rfl<;>rfl) hlen2
 obtain⟨L3,ow3,x3,st3,r3,o3⟩:=k4 (.tup []) (.tuple #[]) (.tup [] [] .nil) rfl
 rw[hb2]at x3 st3
 have e3:s2.set i (ds.1,setL ds.2 0 [.int .u32 1,.int .i32 0])=s2.set i (140,(ds.2.set 0 (.int .u32 1)).set 1 (.int .i32 0)):=by rw[d1];rfl
 rw[e3]at st3
 exact⟨_,rfl,L3,ow3,x1.trans (x2.trans (drew_ext.trans x3)),st3,r3,.of_not rfl⟩
theorem spec_quote (W0:World)(args:List AV)(s:Heap)(v:AV)(s':Heap)(h:eQuote args s=some (v,s')):CallSpec C W0 25 args s v s':=by
 intro L ow w cargs hg hst hargs
 unfold eQuote at h
 split at h
 ·rename_i a
  split at h
  ·rename_i hlt
   cases h
   obtain⟨N,q⟩:=quote_run a hlt
   rw[esc_quote]at q
   have q:=q N (Nat.le_refl _) s
   have D:DOK Cq W0 (den Cq N):=den_ok (C:=Cq) (fun g cs e=>by cases e) (by kernel_rfl) (fun g e args s v s' h1 h2 _=>by
    have h1:(if g=91 then some eOnce else if g=343 then some eCount else none)=some e:=h1
    split at h1
    ·rename_i hg;subst hg;cases h1
     exact spec_once W0 args s v s' h2
    split at h1
    ·rename_i hg;subst hg;cases h1
     exact spec_count Cq rfl W0 args s v s' h2
    ·cases h1) N
   exact(aCall_ok (C:=Cq) (L:=L) (fun g cs e=>by cases e) D q (by intro a ha;rw[List.mem_singleton.1 ha];rfl) ⟨fun g cs e=>(by cases e),hg.2⟩ hst hargs).2
  ·cases h
 ·cases h
end QutF
end

section
namespace ParF
open Go Go.Abs Go.Proofs Go.Sort Go.Shelf Go.RowKit Go.Lib
theorem spec_compact (W0:World)(args:List AV)(s:Heap)(v:AV)(s':Heap)(h:eCompact args s=some (v,s')):CallSpec C W0 36 args s v s':=by
 intro L ow w cargs hg hst hargs
 unfold eCompact at h
 split at h
 ·cases h
  obtain⟨u1,rfl,k1⟩:=relL1 hargs
  cases k1
  refine(compact_nil w).mono ?_
  rintro e w' ⟨rfl,rfl⟩
  exact⟨_,rfl,.same hst .nils (.of_not rfl)⟩
 ·rename_i ty z id len
  split at h
  case h_2=>cases h
  rename_i cs hcs
  split at h
  case isFalse=>cases h
  rename_i hc
  obtain⟨e1,rfl,rfl,hcl,hbig⟩:=hc
  rw[Option.map_eq_some_iff]at h
  obtain⟨d,hd,h⟩:=h
  cases h
  obtain⟨u1,rfl,k1⟩:=relL1 hargs
  cases k1 with
  | rs _ _ _ _ _ cap hid hcap =>
  obtain⟨dr,dl⟩:=drs_inv hd
  have hdl:d.length=len:=by
   have:=congrArg List.length dr
   rw[List.length_take]at dl;omega
  subst hdl
  have hne:=hst.at hid hcs
  have hdt:cs.1≠deadTy:=by rw[e1];decide
  have O:=hst.obj id cs hcs hne hdt
  obtain⟨vs,js,⟨fz,hh⟩,hrel,h1,h2,h5⟩:=O.cells
  rw[e1]at hh
  have hvl:=hrel.length
  have hvs:vs.take (d.length*5)=d.flatMap encD:=rows_inv (by rw[←dr];exact hrel.take _)
  have hcell:∀j q,(vs++js)[j]?=some q→w.cell? ⟨L.loc id,j,none⟩=some q:=by
   intro j q hj
   simp only[World.cell?,hh]
   rw[List.getElem?_toArray];exact hj
  have hH:HoldsK encD 5 w (L.loc id) 0 d.toArray:=by
   unfold HoldsK Holds
   intro t ht
   rw[size_flatK,List.size_toArray]at ht
   refine⟨?_,by rw[Nat.zero_add];exact O.melt t⟩
   rw[Nat.zero_add,get_flatK _ _ _ _ (by simpa using ht)]
   refine hcell t _ ?_
   rw[List.getElem?_append_left (by omega),←List.getElem?_take_of_lt ht,hvs]
   exact enc_get d t ht
  have hcon:=compK (α:=Dr) Tryz.compDg 5 Tryz.isAgg61 Tryz.sizeOf61 encD (fun _=>rfl) enc_one eql_dr neq_dr guard_dr zrD zv61 (L.loc id) 0 cap d.toArray w hH (by rw[List.size_toArray];omega) (by rw[List.size_toArray];exact hcap.1)
  change Calls Tryz.prog 36 _ _ _ at hcon
  refine hcon.mono ?_
  rintro e w' ⟨rfl,n,hw⟩
  rw[upto_cmpct]at hw ⊢
  have hcm:=cmpct_len d
  obtain⟨X,hX⟩:∃X,X=cmpct d++List.replicate (d.toArray.size-(cmpct d).length) zrD:=⟨_,rfl⟩
  have hXl:X.length=d.length:=by rw[hX,List.length_append,List.length_replicate,List.size_toArray];omega
  rw[←hX,←grow_empty (putRowK _ _ _ _ _ _)]at hw
  obtain⟨x1,x2⟩:=row_res hst hcs e1 hcl hXl hne hh hrel h1 h2 h5 O.melt hw
  have hidl:id<s.length:=(List.getElem?_eq_some_iff.1 hcs).1
  have hkill:kill (s.set id (61,X.flatMap Dr.row++cs.2.drop (d.length*5))) id=kill s id:=by unfold kill;rw[List.set_set]
  have htk:(X.flatMap Dr.row++cs.2.drop (d.length*5)).take ((cmpct d).length*5)=(cmpct d).flatMap Dr.row:=by
   rw[hX,List.flatMap_append,List.append_assoc,List.take_append_of_le_length (by rw[drow_len];exact Nat.le_refl _),List.take_of_length_le (by rw[drow_len];exact Nat.le_refl _)]
  have hpub:aPub1 (.rs 61 5 id 0 (cmpct d).length) (s.set id (61,X.flatMap Dr.row++cs.2.drop (d.length*5)))=some (.sl 61 5 ((cmpct d).map fun r=>.agg r.row) .sh,kill s id):=by
   unfold aPub1
   simp only[List.getElem?_set_self hidl]
   rw[htk,if_pos ⟨trivial,by decide,by decide,by rw[List.length_append,drow_len];omega,drow_plain _⟩,drow_strip,chunk_rows,hkill]
  obtain⟨L2,y1,y2,y3,y4⟩:=pub1_ok x2 hpub (v:=.slice (some ⟨L.loc id,0,none⟩) (cmpct d).length cap) (.rs 61 5 id 0 _ cap hid ⟨by omega,hcap.2⟩)
  exact⟨_,rfl,L2,ow,x1.trans y1,y2,y3,.of_not rfl⟩
 ·cases h
def SpTab (w : World) : Prop := Lib.TabIs Tryz.prog w "strings.asciiSpace" .u8 Lib.asciiSpaceTab ∧ ErrTab w ∧ PowTab w
theorem ext_ok (W0:World)(hT:SpTab W0)(g:FuncId)(e:List AV→Heap→Option (AV×Heap))(args:List AV)(s:Heap)(v:AV)(s':Heap)(he:C.ext g=some e)(h:e args s=some (v,s')):CallSpec C W0 g args s v s':=by
 have he':(if g=71 then some eIndex else if g=62 then some ePrefix else if g=130 then some eFields else if g=207 then some eInsert else if g=144 then some (bCheck 113) else if g=81 then some (bString 5) else if g=175 then some eAtoi else if g=34 then some eSort else if g=36 then some eCompact else if g=141 then some eItoa else if g=25 then some eQuote else none)=some e:=he
 intro L ow w cargs hg hst hargs
 split at he'
 ·rename_i hg';subst hg';cases he'
  unfold eIndex at h
  split at h
  ·rename_i a c
   cases h
   obtain⟨u1,u2,rfl,k1,k2⟩:=relL2 hargs
   cases k1;cases k2
   refine(Tryz.strings_IndexByte ⟨a.toArray⟩ c w).mono ?_
   rintro e w' ⟨rfl,rfl⟩
   rw[bytes_list]
   exact⟨_,rfl,.same hst (.int _ _) (.of_not rfl)⟩
  ·cases h
 split at he'
 ·rename_i hg';subst hg';cases he'
  unfold ePrefix at h
  split at h
  ·rename_i a b
   cases h
   obtain⟨u1,u2,rfl,k1,k2⟩:=relL2 hargs
   cases k1;cases k2
   refine(Tryz.strings_HasPrefix ⟨a.toArray⟩ ⟨b.toArray⟩ w).mono ?_
   rintro e w' ⟨rfl,rfl⟩
   rw[bytes_list,bytes_list]
   exact⟨_,rfl,.same hst (.bool _) (.of_not rfl)⟩
  ·cases h
 split at he'
 ·rename_i hg';subst hg';cases he'
  unfold eFields at h
  split at h
  ·rename_i a
   split at h
   ·rename_i hc
    cases h
    obtain⟨u1,rfl,k1⟩:=relL1 hargs
    cases k1
    have hs:=Lib.tabBelow_of_tabIs hT.1 w hst.below
    refine(Tryz.strings_Fields ⟨a.toArray⟩ w (by rw[bytes_size];omega) (fun j b hb=>?_) hs).mono ?_
    ·rw[bytes_list]at hb
     have:=List.all_eq_true.1 hc.2 b (List.mem_of_getElem? hb)
     simpa using this
    ·rintro e w' ⟨rfl,rfl⟩
     rw[bytes_list]
     exact⟨_,rfl,new_strs hst (Lib.fields a)⟩
   ·cases h
  ·cases h
 split at he'
 ·rename_i hg';subst hg';cases he'
  exact spec_insert W0 args s v s' h L ow w cargs hg hst hargs
 split at he'
 ·rename_i hg';subst hg';cases he'
  exact spec_check W0 args s v s' h L ow w cargs hg hst hargs
 split at he'
 ·rename_i hg';subst hg';cases he'
  exact spec_string W0 args s v s' h L ow w cargs hg hst hargs
 split at he'
 ·rename_i hg';subst hg';cases he'
  exact spec_atoi W0 hT.2.1 args s v s' h L ow w cargs hg hst hargs
 split at he'
 ·rename_i hg';subst hg';cases he'
  exact spec_sort W0 args s v s' h L ow w cargs hg hst hargs
 split at he'
 ·rename_i hg';subst hg';cases he'
  exact spec_compact W0 args s v s' h L ow w cargs hg hst hargs
 split at he'
 ·rename_i hg';subst hg';cases he'
  exact spec_itoa W0 hT.2.2 args s v s' h L ow w cargs hg hst hargs
 split at he'
 ·rename_i hg';subst hg';cases he'
  exact QutF.spec_quote W0 args s v s' h L ow w cargs hg hst hargs
 ·cases he'
end ParF
end
