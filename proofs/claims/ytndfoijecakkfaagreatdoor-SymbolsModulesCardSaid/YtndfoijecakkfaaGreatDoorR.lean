/- ParRow, ParMo -/
import Derived.Test.YtndfoijecakkfaaGreatDoorY
import Derived.Test.YtndfoijecakkfaaGreatDoorL
import Derived.LaidLaws
import Derived.Test.YtndfoijecakkfaaGreatDoorRows
import Derived.ProofKit
import Derived.SizedLaws
import Derived.Lib.LaidU8
import Derived.Lay
import Derived.SevenTiedAt
import Derived.Stop.Joined
import Derived.Test.YtndfoijecakkfaaGreatDoorJ
import Derived.Deep.Slices
set_option linter.all false
set_option maxRecDepth 100000

section
namespace ParF
open Go Go.Abs Go.Proofs
theorem LN {g:FuncId}{args:List AV}(h:AC C g args (.bool true))(hn:∀a∈args,a.ct=false)(W:World)(hT:LO W){cargs:List Value}(ha:bB (DV W) args cargs) :
  Calls Tryz.prog g cargs.toArray W fun e W'=>e=.returned (.bool true)∧RowKit.Below W.heap.size W W':=by
 obtain⟨N,q⟩:=ep.AC.at h
 have q:=q N (Nat.le_refl _) []
 have D:QF C W (den C N):=CN (fun g cs e=>by cases e) (by kernel_rfl) (fun g e args s v s' h1 h2 _=>VG W hT g e args s v s' h1 h2) N
 refine(uL (C:=C) (fun g cs e=>by cases e) D q hn ⟨fun g cs e=>(by cases e),rfl⟩ (OF W) ha).2.mono ?_
 rintro e W' ⟨cv,rfl,L',ow',hx,hs,hr,_⟩
 cases hr
 exact⟨rfl,hs.below⟩
theorem yf {L:Lay}(s:ByteArray):Rel L (.str s.data.toList) (.string s):=by
 have h:=Rel.str (L:=L) s.data.toList
 have e:(⟨s.data.toList.toArray⟩:ByteArray)=s:=by cases s;simp
 rw[e]at h
 exact h
open Go.Proofs.YtndfoijecakkfaaGreatDoor in
def BW : List (String × DataW Unit) := [("math/bits.deBruijn32tab", Rows.laid_math_bits_deBruijn32tab), ("math/bits.deBruijn64tab", Rows.laid_math_bits_deBruijn64tab), ("internal/strconv.uint64pow10", Rows.laid_internal_strconv_uint64pow10), ("strconv.ErrRange", Rows.laid_strconv_ErrRange), ("strconv.ErrSyntax", Rows.laid_strconv_ErrSyntax), ("unicode.White_Space", Rows.laid_unicode_White_Space), ("strings.asciiSpace", Rows.laid_strings_asciiSpace)]
theorem LP:(Go.Proofs.YtndfoijecakkfaaGreatDoor.Rows.laid_strings_asciiSpace:DataW Unit)=Lib.tabData .u8 Lib.asciiSpaceTab:=by kernel_rfl
theorem Qp:Tryz.prog.underlying 3=some (.int .i64):=by kernel_rfl
theorem FH:Tryz.prog.underlying 9=some .string:=by kernel_rfl
theorem LQ:Tryz.prog.underlying 196=some (.array 256 5):=by kernel_rfl
theorem Qq:Tryz.prog.underlying 5=some (.int .u8):=by kernel_rfl
noncomputable def aaI:Array (String×TypeId):=match Tryz.prog.underlying 181 with|some (.interface ms)=>ms|_=>#[]
theorem LR:Tryz.prog.underlying 181=some (.interface aaI):=by kernel_rfl
theorem Qr {W:World}(h:laidMetH Tryz.prog BW W):LO W:=by
 rw[MakeChecks.laidMetH_plain _ _ _ (by kernel_rfl)]at h
 refine⟨?_,?_⟩
 ·have h3 : Lib.VarReads Tryz.prog W "strings.asciiSpace" (Lib.tabData .u8 Lib.asciiSpaceTab) := LP ▸ Lib.laidMet.reads h (.tail _ (.tail _ (.tail _ (.tail _ (.tail _ (.tail _ (.head _)))))))
  obtain⟨g,t,cs,fK,p,hg,hty,hvar,hd⟩:=h3
  obtain rfl := Option.some.inj ((show Tryz.prog.globalNamed "strings.asciiSpace" = some 0 by kernel_rfl).symm.trans hg)
  obtain rfl:=Option.some.inj ((show (Tryz.prog.globals[0]?).map (·.type)=some 196 by kernel_rfl).symm.trans hty)
  unfold Lib.TabIs
  rw[hvar,←Lib.cells_of_tab LQ Qq (by kernel_rfl) (by kernel_rfl) hd]
 ·have h3 : Lib.VarReads Tryz.prog W "strconv.ErrRange" Go.Proofs.YtndfoijecakkfaaGreatDoor.Rows.laid_strconv_ErrRange := Lib.laidMet.reads h (.tail _ (.tail _ (.tail _ (.head _))))
  obtain⟨g,t,cs,fK,p,hg,hty,hvar,hd⟩:=h3
  obtain rfl := Option.some.inj ((show Tryz.prog.globalNamed "strconv.ErrRange" = some 4 by kernel_rfl).symm.trans hg)
  obtain rfl:=Option.some.inj ((show (Tryz.prog.globals[4]?).map (·.type)=some 181 by kernel_rfl).symm.trans hty)
  obtain⟨_,u,v,hcs,_,_⟩:=iface_of_trod LR hd
  refine⟨u,v,?_⟩
  rw[hvar]
  refine congrArg some ?_
  exact Array.toList_inj.1 hcs
end ParF
end

section
namespace ParF
open Go Go.Abs Go.Proofs Pm
noncomputable def aaJ:Array Field:=match Tryz.prog.underlying 27 with|some (.struct fs)=>fs|_=>#[]
theorem LS:Tryz.prog.underlying 27=some (.struct aaJ):=by kernel_rfl
theorem BX:aaJ.toList.map (fun f=>(f.type,f.offset))=[(9,0),(9,1)]:=by kernel_rfl
theorem Qs:Tryz.prog.cellsOf 9=1:=by kernel_rfl
theorem BY:Tryz.prog.cellsOf 27=2:=by kernel_rfl
abbrev sn:=ByteArray×ByteArray
section
variable {H:Type}{enc:TypeId×Value→H}{w:World}{base:Nat}{spare:Nat→Bool}{held:Bool}
abbrev sn.dat {H:Type}(x:sn):DataW H:=.agg [.lit (.string x.1.data.toList),.lit (.string x.2.data.toList)]
theorem VH {fK:Nat}{cs:List Value}{x:DataW H×List MemPlace}(h:DataW.trod enc Tryz.prog w base spare held fK 27 cs=some x) :
  ∃r:sn,cs=[.string r.1,.string r.2]∧x.1=sn.dat r:=by
 obtain⟨xs,n,_,rfl,hl,hlen,hf⟩:=DataW.trod_struct LS h
 have h2:cs.length=2:=hl.trans BY
 match cs,h2 with
 | [v0,v1],_ =>
 have key:∀(i:Nat) (ty:TypeId) (off:Nat),[(9,0),(9,1)][i]?=some (ty,off)→DataW.trod enc Tryz.prog w base spare held n ty (([v0,v1].drop off).take (Tryz.prog.cellsOf ty))=xs[i]?:=by
  intro i ty off hi
  rw[←BX,List.getElem?_map]at hi
  obtain⟨f,hf1,hf2⟩:=Option.map_eq_some_iff.1 hi
  cases hf2
  exact hf i f (by simpa using hf1)
 have hs:xs.length=2:=by rw[hlen];simpa using congrArg List.length BX
 match xs,hs with
 | [y0,y1],_ =>
 have k0:=key 0 9 0 rfl
 have k1:=key 1 9 1 rfl
 rw[Qs]at k0 k1
 obtain⟨a,e0,r0,_⟩:=DataW.trod_string FH (by simpa using k0)
 obtain⟨b,e1,r1,_⟩:=DataW.trod_string FH (by simpa using k1)
 simp only[List.cons.injEq,and_true]at e0 e1
 subst e0;subst e1;subst r0;subst r1
 exact⟨(a,b),rfl,rfl⟩
theorem HO {fK:Nat}{cs:List Value}{x:DataW H×List MemPlace}(h:DataW.trod enc Tryz.prog w base spare held fK 22 cs=some x) :
  (cs=[.slice none 0 0]∧x=(.nil,[])) ∨
  ∃(a:Addr) (len cap:Nat) (E:Nat→sn),cs=[.slice (some a) len cap]∧len≤cap ∧
   ∀i,i<len→w.cell? (a.add (i*2))=some (.string (E i).1)∧w.cell? (a.add (i*2+1))=some (.string (E i).2):=by
 rcases Go.Deep.open_slice ij h with h0|⟨a,len,cap,m,n,D,Pl,rfl,hb,hl,hm,hmm,rfl,hx⟩
 ·exact Or.inl h0
 right
 rw[BY]at hx
 have hle:len≤m:=by rw[hmm];split<;>omega
 obtain⟨E,hE⟩:=Go.Deep.choose_lt (α:=sn) (n:=len) (p:=fun i r=>w.cell? (a.add (i*2))=some (.string r.1)∧w.cell? (a.add (i*2+1))=some (.string r.2)) (fun i hi=>by
  obtain⟨bY,h1,h2⟩:=hx i (by omega)
  obtain⟨r,rfl,hd⟩:=VH h2
  obtain⟨_,_,hc⟩:=World.cells?_some h1
  have c0:=hc 0 (by omega)
  have c1:=hc 1 (by omega)
  rw[Go.Deep.add_add]at c0 c1
  exact⟨r,by simpa using c0,by simpa using c1⟩)
 exact⟨a,len,cap,E,rfl,hl,hE⟩
end
abbrev sn.mo (x:sn):Mo:=(x.1.data.toList,x.2.data.toList)
theorem yg {W:World}{b:Nat}:∀(l:List sn)(o:Nat),(∀i (hi:i<l.length),W.cell? ⟨b,o+i*2,none⟩=some (.string l[i].1)∧W.cell? ⟨b,o+i*2+1,none⟩=some (.string l[i].2)) →
  cX (DV W) b o (cellsOf ((l.map sn.mo).map pA))
 | [],o,_=>.nil _ _
 | r::l,o,h=>by
  obtain⟨h0,h1⟩:=h 0 (by simp)
  simp only[Nat.zero_mul,Nat.add_zero,List.getElem_cons_zero]at h0 h1
  refine .cons _ _ _ _ _ h0 rfl (yf _) (.cons _ _ _ _ _ h1 rfl (yf _) (yg l (o+2) fun i hi=>?_))
  have:=h (i+1) (by simp;omega)
  rw[show o+(i+1)*2=o+2+i*2 by omega]at this
  simpa using this
theorem LU {W:World}{b o cap:Nat}(l:List sn)(hl:l.length≤cap)(h:∀i (hi:i<l.length),W.cell? ⟨b,o+i*2,none⟩=some (.string l[i].1)∧W.cell? ⟨b,o+i*2+1,none⟩=some (.string l[i].2)) :
  Rel (DV W) (.sl 27 2 ((l.map sn.mo).map pA) .sh) (.slice (some ⟨b,o,none⟩) l.length cap):=by
 have:=Rel.sl (L:=DV W) b o 27 2 ((l.map sn.mo).map pA) .sh cap (yg l o h) (by intro x hx;simp only[List.mem_map]at hx;obtain⟨y,_,rfl⟩:=hx;rfl) ⟨by simpa using hl,nofun⟩
 simpa using this
theorem HP {P:Program}{W:World}{base:Nat}{t e:TypeId}{a:Addr}{len cap:Nat}(ht:P.underlying t=some (.slice e))(h:Value.okWide P W .any base t (.slice (some a) len cap)):a.spot=none:=by
 simp only[Value.okWide,ht,Cell.okWide,Cell.ok]at h
 exact h.2.2.2.1
theorem LV {H:Type}{enc:TypeId×Value→H}{W:World}{base fK:Nat}{spare:Nat→Bool}{held:Bool}{a:Option Addr}{len cap:Nat}{x:DataW H×List MemPlace}
  (Mm:Value.okWide Tryz.prog W .any base 22 (.slice a len cap))(h:DataW.trod enc Tryz.prog W 0 spare held fK 22 (Value.slice a len cap).cells.toList=some x):∃v ms,gu v ms∧Rel (DV W) v (.slice a len cap):=by
 rcases HO h with ⟨hcs,hx⟩|⟨a',aeV,aeW,E,hcs,hl,hcell⟩
 ·simp[Value.cells]at hcs
  obtain⟨rfl,rfl,rfl⟩:=hcs
  exact⟨_,[],.inl ⟨rfl,rfl⟩,.aN⟩
 ·simp[Value.cells]at hcs
  obtain⟨rfl,rfl,rfl⟩:=hcs
  obtain⟨b,off,spot⟩:=a'
  have aaK:spot=none:=HP ij Mm
  subst aaK
  have hlen:((List.range len).map E).length=len:=by simp
  have hr:=LU (W:=W) (b:=b) (o:=off) (cap:=cap) ((List.range len).map E) (by simpa using hl) (fun i hi=>by
   have hi':i<len:=by simpa using hi
   have:=hcell i hi'
   have add_plain:∀n,Addr.add ⟨b,off,none⟩ n=⟨b,off+n,none⟩:=fun n=>by unfold Addr.add;split<;>simp_all
   rw[add_plain,add_plain]at this
   simpa[Nat.add_assoc] using this)
  rw[hlen]at hr
  exact⟨_,_,.inr rfl,hr⟩
theorem gu.own {a:AV}{ms:List Mo}(h:gu a ms):a.ct=false:=by rcases h with ⟨rfl,_⟩|rfl<;>rfl
end ParF
end
