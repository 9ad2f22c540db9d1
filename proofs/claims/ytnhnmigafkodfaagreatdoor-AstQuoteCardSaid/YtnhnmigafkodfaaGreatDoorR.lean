/- ParRow -/
import Derived.Test.YtnhnmigafkodfaaGreatDoorV
import Derived.Test.YtnhnmigafkodfaaGreatDoorY
import Derived.Test.YtnhnmigafkodfaaGreatDoorL
import Derived.LaidLaws
import Derived.Test.YtnhnmigafkodfaaGreatDoorRows
import Derived.ProofKit
import Derived.SizedLaws
import Derived.Lib.LaidU8
import Derived.Lay
import Derived.SevenTiedAt
import Derived.Stop.Joined
set_option linter.all false

section
namespace ParF
open Go Go.Abs Go.Proofs
theorem run_true {g:FuncId}{args:List AV}(h:AC C g args (.bool true))(hn:∀a∈args,a.isOwn=false)(W:World)(hT:SpTab W){cargs:List Value}(ha:RelL (lay0 W) args cargs) :
  Calls Tryz.prog g cargs.toArray W fun e W'=>e=.returned (.bool true)∧RowKit.Below W.heap.size W W':=by
 obtain⟨N,q⟩:=LexF.AC.at h
 have q:=q N (Nat.le_refl _) []
 have D:DOK C W (den C N):=den_ok (fun g cs e=>by cases e) (by kernel_rfl) (fun g e args s v s' h1 h2 _=>ext_ok W hT g e args s v s' h1 h2) N
 refine(aCall_ok (C:=C) (fun g cs e=>by cases e) D q hn ⟨fun g cs e=>(by cases e),rfl⟩ (st0 W) ha).2.mono ?_
 rintro e W' ⟨cv,rfl,L',ow',hx,hs,hr,_⟩
 cases hr
 exact⟨rfl,hs.below⟩
theorem rel_bytes {L:Lay}(s:ByteArray):Rel L (.str s.data.toList) (.string s):=by
 have h:=Rel.str (L:=L) s.data.toList
 have e:(⟨s.data.toList.toArray⟩:ByteArray)=s:=by cases s;simp
 rw[e]at h
 exact h
open Go.Proofs.YtnhnmigafkodfaaGreatDoor in
def laidQ : List (String × DataW Unit) := [("math/bits.deBruijn32tab", Rows.laid_math_bits_deBruijn32tab), ("math/bits.deBruijn64tab", Rows.laid_math_bits_deBruijn64tab), ("internal/strconv.uint64pow10", Rows.laid_internal_strconv_uint64pow10), ("strconv.ErrRange", Rows.laid_strconv_ErrRange), ("strconv.ErrSyntax", Rows.laid_strconv_ErrSyntax), ("unicode.White_Space", Rows.laid_unicode_White_Space), ("strings.asciiSpace", Rows.laid_strings_asciiSpace)]
theorem space_eq:(Go.Proofs.YtnhnmigafkodfaaGreatDoor.Rows.laid_strings_asciiSpace:DataW Unit)=Lib.tabData .u8 Lib.asciiSpaceTab:=by kernel_rfl
theorem pow_eq:(Go.Proofs.YtnhnmigafkodfaaGreatDoor.Rows.laid_internal_strconv_uint64pow10:DataW Unit)=Lib.tabData .u64 Lib.pow10Tab:=by kernel_rfl
theorem underPow:Tryz.prog.underlying 277=some (.array 20 164):=by kernel_rfl
theorem under164r:Tryz.prog.underlying 164=some (.int .u64):=by kernel_rfl
theorem under9r:Tryz.prog.underlying 9=some .string:=by kernel_rfl
theorem underTab:Tryz.prog.underlying 188=some (.array 256 5):=by kernel_rfl
theorem under5r:Tryz.prog.underlying 5=some (.int .u8):=by kernel_rfl
noncomputable def msErr:Array (String×TypeId):=match Tryz.prog.underlying 116 with|some (.interface ms)=>ms|_=>#[]
theorem underErr:Tryz.prog.underlying 116=some (.interface msErr):=by kernel_rfl
theorem tab_ofQ {W:World}(h:laidMetH Tryz.prog laidQ W):SpTab W:=by
 rw[MakeChecks.laidMetH_plain _ _ _ (by kernel_rfl)]at h
 refine⟨?_,?_,?_⟩
 ·have h3 : Lib.VarReads Tryz.prog W "strings.asciiSpace" (Lib.tabData .u8 Lib.asciiSpaceTab) := space_eq ▸ Lib.laidMet.reads h (.tail _ (.tail _ (.tail _ (.tail _ (.tail _ (.tail _ (.head _)))))))
  obtain⟨g,t,cs,fuel,p,hg,hty,hvar,hd⟩:=h3
  obtain rfl := Option.some.inj ((show Tryz.prog.globalNamed "strings.asciiSpace" = some 0 by kernel_rfl).symm.trans hg)
  obtain rfl:=Option.some.inj ((show (Tryz.prog.globals[0]?).map (·.type)=some 188 by kernel_rfl).symm.trans hty)
  unfold Lib.TabIs
  rw[hvar,←Lib.cells_of_tab underTab under5r (by kernel_rfl) (by kernel_rfl) hd]
 ·have h3 : Lib.VarReads Tryz.prog W "strconv.ErrRange" Go.Proofs.YtnhnmigafkodfaaGreatDoor.Rows.laid_strconv_ErrRange := Lib.laidMet.reads h (.tail _ (.tail _ (.tail _ (.head _))))
  obtain⟨g,t,cs,fuel,p,hg,hty,hvar,hd⟩:=h3
  obtain rfl := Option.some.inj ((show Tryz.prog.globalNamed "strconv.ErrRange" = some 4 by kernel_rfl).symm.trans hg)
  obtain rfl:=Option.some.inj ((show (Tryz.prog.globals[4]?).map (·.type)=some 116 by kernel_rfl).symm.trans hty)
  obtain⟨_,u,v,hcs,_,_⟩:=iface_of_trod underErr hd
  refine⟨u,v,?_⟩
  rw[hvar]
  refine congrArg some ?_
  exact Array.toList_inj.1 hcs
 ·have h3 : Lib.VarReads Tryz.prog W "internal/strconv.uint64pow10" (Lib.tabData .u64 Lib.pow10Tab) := pow_eq ▸ Lib.laidMet.reads h (.tail _ (.tail _ (.head _)))
  obtain⟨g,t,cs,fuel,p,hg,hty,hvar,hd⟩:=h3
  obtain rfl := Option.some.inj ((show Tryz.prog.globalNamed "internal/strconv.uint64pow10" = some 5 by kernel_rfl).symm.trans hg)
  obtain rfl:=Option.some.inj ((show (Tryz.prog.globals[5]?).map (·.type)=some 277 by kernel_rfl).symm.trans hty)
  unfold PowTab Lib.TabIs
  rw[hvar,←Lib.cells_of_tab underPow under164r (by kernel_rfl) (by kernel_rfl) hd]
end ParF
end
