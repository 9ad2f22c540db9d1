/- ParRow, ParNu -/
import Derived.Test.YtnhnmigafkodfaaGreatDoorV
import Derived.Test.YtnhnmigafkodfaaGreatDoorY
import Derived.Test.YtnhnmigafkodfaaGreatDoorL
import Derived.LaidLaws
import Derived.Test.YtnhnmigafkodfaaGreatDoorRows
import Derived.ProofKit
import Derived.SizedLaws
import Derived.Lib.LaidU8
import Derived.Lay
import Derived.SevenTiedAt
import Derived.Stop.Joined
import Derived.Test.YtnhnmigafkodfaaGreatDoorJ
import Derived.Deep.Slices
import Derived.Test.YtnhnmigafkodfaaGreatDoorQ
set_option linter.all false
set_option maxRecDepth 100000

section
namespace ParF
open Go Go.Abs Go.Proofs
theorem run_true {g:FuncId}{args:List AV}(h:AC C g args (.bool true))(hn:∀a∈args,a.isOwn=false)(W:World)(hT:SpTab W){cargs:List Value}(ha:RelL (lay0 W) args cargs) :
  Calls Tryz.prog g cargs.toArray W fun e W'=>e=.returned (.bool true)∧RowKit.Below W.heap.size W W':=by
 obtain⟨N,q⟩:=LexF.AC.at h
 have q:=q N (Nat.le_refl _) []
 have D:DOK C W (den C N):=den_ok (fun g cs e=>by cases e) (by kernel_rfl) (fun g e args s v s' h1 h2 _=>ext_ok W hT g e args s v s' h1 h2) N
 refine(aCall_ok (C:=C) (fun g cs e=>by cases e) D q hn ⟨fun g cs e=>(by cases e),rfl⟩ (st0 W) ha).2.mono ?_
 rintro e W' ⟨cv,rfl,L',ow',hx,hs,hr,_⟩
 cases hr
 exact⟨rfl,hs.below⟩
theorem rel_bytes {L:Lay}(s:ByteArray):Rel L (.str s.data.toList) (.string s):=by
 have h:=Rel.str (L:=L) s.data.toList
 have e:(⟨s.data.toList.toArray⟩:ByteArray)=s:=by cases s;simp
 rw[e]at h
 exact h
open Go.Proofs.YtnhnmigafkodfaaGreatDoor in
def laidQ : List (String × DataW Unit) := [("math/bits.deBruijn32tab", Rows.laid_math_bits_deBruijn32tab), ("math/bits.deBruijn64tab", Rows.laid_math_bits_deBruijn64tab), ("internal/strconv.uint64pow10", Rows.laid_internal_strconv_uint64pow10), ("strconv.ErrRange", Rows.laid_strconv_ErrRange), ("strconv.ErrSyntax", Rows.laid_strconv_ErrSyntax), ("unicode.White_Space", Rows.laid_unicode_White_Space), ("strings.asciiSpace", Rows.laid_strings_asciiSpace)]
theorem space_eq:(Go.Proofs.YtnhnmigafkodfaaGreatDoor.Rows.laid_strings_asciiSpace:DataW Unit)=Lib.tabData .u8 Lib.asciiSpaceTab:=by kernel_rfl
theorem pow_eq:(Go.Proofs.YtnhnmigafkodfaaGreatDoor.Rows.laid_internal_strconv_uint64pow10:DataW Unit)=Lib.tabData .u64 Lib.pow10Tab:=by kernel_rfl
theorem underPow:Tryz.prog.underlying 277=some (.array 20 164):=by kernel_rfl
theorem under164r:Tryz.prog.underlying 164=some (.int .u64):=by kernel_rfl
theorem under3r:Tryz.prog.underlying 3=some (.int .i64):=by kernel_rfl
theorem under9r:Tryz.prog.underlying 9=some .string:=by kernel_rfl
theorem underTab:Tryz.prog.underlying 188=some (.array 256 5):=by kernel_rfl
theorem under5r:Tryz.prog.underlying 5=some (.int .u8):=by kernel_rfl
noncomputable def msErr:Array (String×TypeId):=match Tryz.prog.underlying 116 with|some (.interface ms)=>ms|_=>#[]
theorem underErr:Tryz.prog.underlying 116=some (.interface msErr):=by kernel_rfl
theorem tab_ofQ {W:World}(h:laidMetH Tryz.prog laidQ W):SpTab W:=by
 rw[MakeChecks.laidMetH_plain _ _ _ (by kernel_rfl)]at h
 refine⟨?_,?_,?_⟩
 ·have h3 : Lib.VarReads Tryz.prog W "strings.asciiSpace" (Lib.tabData .u8 Lib.asciiSpaceTab) := space_eq ▸ Lib.laidMet.reads h (.tail _ (.tail _ (.tail _ (.tail _ (.tail _ (.tail _ (.head _)))))))
  obtain⟨g,t,cs,fuel,p,hg,hty,hvar,hd⟩:=h3
  obtain rfl := Option.some.inj ((show Tryz.prog.globalNamed "strings.asciiSpace" = some 0 by kernel_rfl).symm.trans hg)
  obtain rfl:=Option.some.inj ((show (Tryz.prog.globals[0]?).map (·.type)=some 188 by kernel_rfl).symm.trans hty)
  unfold Lib.TabIs
  rw[hvar,←Lib.cells_of_tab underTab under5r (by kernel_rfl) (by kernel_rfl) hd]
 ·have h3 : Lib.VarReads Tryz.prog W "strconv.ErrRange" Go.Proofs.YtnhnmigafkodfaaGreatDoor.Rows.laid_strconv_ErrRange := Lib.laidMet.reads h (.tail _ (.tail _ (.tail _ (.head _))))
  obtain⟨g,t,cs,fuel,p,hg,hty,hvar,hd⟩:=h3
  obtain rfl := Option.some.inj ((show Tryz.prog.globalNamed "strconv.ErrRange" = some 4 by kernel_rfl).symm.trans hg)
  obtain rfl:=Option.some.inj ((show (Tryz.prog.globals[4]?).map (·.type)=some 116 by kernel_rfl).symm.trans hty)
  obtain⟨_,u,v,hcs,_,_⟩:=iface_of_trod underErr hd
  refine⟨u,v,?_⟩
  rw[hvar]
  refine congrArg some ?_
  exact Array.toList_inj.1 hcs
 ·have h3 : Lib.VarReads Tryz.prog W "internal/strconv.uint64pow10" (Lib.tabData .u64 Lib.pow10Tab) := pow_eq ▸ Lib.laidMet.reads h (.tail _ (.tail _ (.head _)))
  obtain⟨g,t,cs,fuel,p,hg,hty,hvar,hd⟩:=h3
  obtain rfl := Option.some.inj ((show Tryz.prog.globalNamed "internal/strconv.uint64pow10" = some 5 by kernel_rfl).symm.trans hg)
  obtain rfl:=Option.some.inj ((show (Tryz.prog.globals[5]?).map (·.type)=some 277 by kernel_rfl).symm.trans hty)
  unfold PowTab Lib.TabIs
  rw[hvar,←Lib.cells_of_tab underPow under164r (by kernel_rfl) (by kernel_rfl) hd]
end ParF
end

section
namespace ParF
open Go Go.Abs Go.Proofs Pm
open Go.Proofs.YtnhnmigafkodfaaGreatDoor.Rows (uptoBulk uptoBulkAll)
noncomputable def fs27:Array Field:=match Tryz.prog.underlying 27 with|some (.struct fs)=>fs|_=>#[]
theorem under27n:Tryz.prog.underlying 27=some (.struct fs27):=by kernel_rfl
theorem fields27:fs27.toList.map (fun f=>(f.type,f.offset))=[(3,0),(3,1),(9,2),(3,3),(3,4),(3,5),(25,6)]:=by kernel_rfl
theorem types27:fs27.toList.map (·.type)=[3,3,9,3,3,3,25]:=by kernel_rfl
theorem cells3n:Tryz.prog.cellsOf 3=1:=by kernel_rfl
theorem cells9n:Tryz.prog.cellsOf 9=1:=by kernel_rfl
theorem cells25n:Tryz.prog.cellsOf 25=1:=by kernel_rfl
theorem cells27n:Tryz.prog.cellsOf 27=7:=by kernel_rfl
theorem bytes27n:Tryz.prog.bytesOf 27=80:=by kernel_rfl
theorem isNL_map {α:Type}{f:α→Nd}{g:α→AV}:∀l:List α,(∀i∈l,IsN (f i) (g i))→IsNL (l.map f) (l.map g)
 | [],_=>.nil
 | i::l,h=>.cons _ _ _ _ (h i (List.mem_cons_self ..)) (isNL_map l fun j hj=>h j (List.mem_cons_of_mem _ hj))
theorem widL_map {α:Type}{f:α→Nd}:∀l:List α,(∀i∈l,widN (f i))→widL (l.map f)
 | [],_=>by rw[List.map_nil,widL];trivial
 | i::l,h=>by rw[List.map_cons,widL];exact⟨h i (List.mem_cons_self ..),widL_map l fun j hj=>h j (List.mem_cons_of_mem _ hj)⟩
theorem relC_of {W:World}{b:Nat}:∀{al:List AV}{vs:List Value}(o:Nat),RelL (lay0 W) al vs→(∀v∈vs,oneC v=true)→(∀j (h:j<vs.length),W.cell? ⟨b,o+j,none⟩=some vs[j])→∀{tl:List AV},RelC (lay0 W) b (o+vs.length) tl→RelC (lay0 W) b o (al++tl)
 | _,_,o,.nil,_,_,tl,ht=>ht
 | _,_,o,.cons a v al vs h t,h1,hc,tl,ht=>by
  have h0:=hc 0 (by simp)
  have h0':W.cell? ⟨b,o,none⟩=some v:=by simpa using h0
  refine .cons _ _ _ _ _ h0' (h1 v (List.mem_cons_self ..)) h (relC_of (o+1) t (fun u hu=>h1 u (List.mem_cons_of_mem _ hu)) (fun j hj=>?_) ?_)
  ·have:=hc (j+1) (by simpa using hj)
   rw[show o+(j+1)=o+1+j by omega]at this
   simpa using this
  ·rw[List.length_cons]at ht
   rw[show o+1+vs.length=o+(vs.length+1) by omega];exact ht
mutual
def rngN:Nd→Prop
 | .mk _ v _ _ _ _ cs=>(-9223372036854775808≤v∧v≤9223372036854775807)∧rngL cs
def rngL:List Nd→Prop
 | []=>True
 | t::ts=>rngN t∧rngL ts
end
mutual
def blkN:Nd→Nat
 | .mk _ _ x _ _ _ cs=>1+x.length+blkL cs
def blkL:List Nd→Nat
 | []=>0
 | t::ts=>blkN t+blkL ts
end
mutual
theorem heft_blk:∀t:Nd,heft (sd t)+3≤63*blkN t∧szN t≤blkN t
 | .mk k v x s e ns cs=>by rw[sd,heft,blkN,szN_mk];have:=heftL_blk cs;exact⟨by omega,by omega⟩
theorem heftL_blk:∀ts:List Nd,heftL (sdL ts)≤63*blkL ts∧szNL ts≤blkL ts
 | []=>⟨Nat.le_refl _,Nat.le_refl _⟩
 | t::ts=>by rw[sdL,heftL,blkL,szNL];have:=heft_blk t;have:=heftL_blk ts;exact⟨by omega,by omega⟩
end
mutual
theorem fit_blk:∀t:Nd,rngN t→blkN t<1000000000→fitN t
 | .mk k v x s e ns cs=>by
  rw[rngN,blkN,fitN]
  intro h hb
  exact⟨⟨h.1.1,h.1.2,by omega⟩,fitL_blk cs h.2 (by omega)⟩
theorem fitL_blk:∀ts:List Nd,rngL ts→blkL ts<1000000000→fitL ts
 | []=>fun _ _=>by rw[fitL];trivial
 | t::ts=>by
  rw[rngL,blkL,fitL]
  intro h hb
  exact⟨fit_blk t h.1 (by omega),fitL_blk ts h.2 (by omega)⟩
end
theorem okP_blk {t:Nd}(h:rngN t)(hb:blkN t≤1048576):okP t:=by
 have:=heft_blk t
 exact⟨fit_blk t h (by omega),by omega,by omega⟩
theorem rngL_map {α:Type}{f:α→Nd}:∀l:List α,(∀i∈l,rngN (f i))→rngL (l.map f)
 | [],_=>by rw[List.map_nil,rngL];trivial
 | i::l,h=>by rw[List.map_cons,rngL];exact⟨h i (List.mem_cons_self ..),rngL_map l fun j hj=>h j (List.mem_cons_of_mem _ hj)⟩
theorem blkL_range {H:Type}{f:Nat→Nd}:∀(l:List (DataW H))(i:Nat),(∀j (hj:j<l.length),blkN (f (i+j))≤uptoBulk l[j])→blkL ((List.range' i l.length).map f)≤uptoBulkAll l
 | [],i,_=>Nat.zero_le _
 | d::l,i,h=>by
  rw[List.length_cons,List.range'_succ,List.map_cons,blkL,uptoBulkAll]
  have h0:=h 0 (by simp)
  have:=blkL_range (f:=f) l (i+1) fun j hj=>by
   have:=h (j+1) (by simpa using hj)
   rw[show i+(j+1)=i+1+j by omega]at this
   simpa using this
  have h0:blkN (f i)≤uptoBulk d:=h0
  omega
section
variable {H:Type}{enc:TypeId×Value→H}{W:World}{base:Nat}{spare:Nat→Bool}{held:Bool}
def NdOK (W:World)(cs:List Value)(b:Nat):Prop:=∃T al,IsN T (.agg al)∧RelL (lay0 W) al cs∧(∀v∈cs,oneC v=true)∧cs.length=7∧al.length=7∧widN T∧rngN T∧blkN T≤b
theorem rows_relC {b:Nat}(E:Nat→Nd×List AV×List Value):∀(k i o:Nat),(∀j,i≤j→j<i+k→RelL (lay0 W) (E j).2.1 (E j).2.2∧(∀v∈(E j).2.2,oneC v=true)∧(E j).2.2.length=7∧∀q (h:q<(E j).2.2.length),W.cell? ⟨b,o+(j-i)*7+q,none⟩=some (E j).2.2[q]) →
  RelC (lay0 W) b o (cellsOf ((List.range' i k).map fun j=>.agg (E j).2.1))
 | 0,i,o,_=>.nil _ _
 | k+1,i,o,h=>by
  obtain⟨h1,h2,h3,h4⟩:=h i (Nat.le_refl _) (by omega)
  rw[List.range'_succ,List.map_cons]
  show RelC _ _ _ ((E i).2.1++cellsOf _)
  refine relC_of o h1 h2 (fun j hj=>?_) (rows_relC E k (i+1) _ fun j hj hk=>?_)
  ·have:=h4 j hj
   rw[Nat.sub_self,Nat.zero_mul,Nat.add_zero]at this
   exact this
  ·obtain⟨k1,k2,k3,k4⟩:=h j (by omega) (by omega)
   refine⟨k1,k2,k3,fun q hq=>?_⟩
   have:=k4 q hq
   rw[h3,show o+7+(j-(i+1))*7=o+(j-i)*7 by omega]
   exact this
theorem weights_mem {e:TypeId}:∀{l:List (DataW H)}{d:DataW H},(DataW.weightsAll Tryz.prog e l).all (·≤reachBytes)=true→d∈l→(DataW.weights Tryz.prog e d).all (·≤reachBytes)=true
 | [],d,_,h=>by cases h
 | c::l,d,w,h=>by
  rw[DataW.weightsAll,List.all_append,Bool.and_eq_true]at w
  rcases List.mem_cons.1 h with rfl|h
  ·exact w.1
  ·exact weights_mem w.2 h
theorem node_of:∀(m fuel:Nat),fuel≤m→∀{cs:List Value}{x:DataW H×List MemPlace},DataW.trod enc Tryz.prog W base spare held fuel 27 cs=some x→(DataW.weights Tryz.prog 27 x.1).all (·≤reachBytes)=true→NdOK W cs (uptoBulk x.1):=by
 intro m
 induction m with
 | zero =>
  intro fuel hf cs x h _
  obtain rfl:fuel=0:=by omega
  simp[DataW.trod]at h
 | succ m ih =>
  intro fuel hf cs x h hw
  obtain⟨xs,n,hn,rfl,hl,hlen,hfd⟩:=DataW.trod_struct under27n h
  have h7:cs.length=7:=hl.trans cells27n
  match cs,h7 with
  | [v0,v1,v2,v3,v4,v5,v6],_ =>
  have key:∀(i:Nat) (ty:TypeId) (off:Nat),[(3,0),(3,1),(9,2),(3,3),(3,4),(3,5),(25,6)][i]?=some (ty,off)→DataW.trod enc Tryz.prog W base spare held n ty (([v0,v1,v2,v3,v4,v5,v6].drop off).take (Tryz.prog.cellsOf ty))=xs[i]?:=by
   intro i ty off hi
   rw[←fields27,List.getElem?_map]at hi
   obtain⟨f,hf1,hf2⟩:=Option.map_eq_some_iff.1 hi
   cases hf2
   exact hfd i f (by simpa using hf1)
  have hs:xs.length=7:=by rw[hlen];simpa using congrArg List.length fields27
  match xs,hs with
  | [y0,y1,y2,y3,y4,y5,y6],_ =>
  have k0:=key 0 3 0 rfl
  have k1:=key 1 3 1 rfl
  have k2:=key 2 9 2 rfl
  have k3:=key 3 3 3 rfl
  have k4:=key 4 3 4 rfl
  have k5:=key 5 3 5 rfl
  have k6:=key 6 25 6 rfl
  rw[cells3n]at k0 k1 k3 k4 k5
  rw[cells9n]at k2
  rw[cells25n]at k6
  obtain⟨a0,e0,r0,g0⟩:=DataW.trod_int under3r (by simpa using k0)
  obtain⟨a1,e1,r1,g1⟩:=DataW.trod_int under3r (by simpa using k1)
  obtain⟨a2,e2,r2,_⟩:=DataW.trod_string under9r (by simpa using k2)
  obtain⟨a3,e3,r3,g3⟩:=DataW.trod_int under3r (by simpa using k3)
  obtain⟨a4,e4,r4,g4⟩:=DataW.trod_int under3r (by simpa using k4)
  obtain⟨a5,e5,r5,g5⟩:=DataW.trod_int under3r (by simpa using k5)
  have k6:DataW.trod enc Tryz.prog W base spare held n 25 [v6]=some y6:=by simpa using k6
  simp only[List.cons.injEq,and_true]at e0 e1 e2 e3 e4 e5
  subst e0;subst e1;subst e2;subst e3;subst e4;subst e5
  have hg1:-9223372036854775808≤a1∧a1≤9223372036854775807:=by
   simp only[Lit.wf,Bool.and_eq_true,decide_eq_true_eq]at g1
   exact g1
  subst r0;subst r1;subst r2;subst r3;subst r4;subst r5
  have hw6:(DataW.weights Tryz.prog 25 y6.1).all (·≤reachBytes)=true:=by
   simp only[List.map_cons,List.map_nil]at hw
   unfold DataW.weights at hw
   rw[under27n]at hw
   simp only[types27]at hw
   simp only[DataW.weightsEach,List.all_append,Bool.and_eq_true,List.append_nil]at hw
   exact hw.2.2.2.2.2.2
  have fin:∀(ts:List Nd) (ch:AV),IsNC ts ch→Rel (lay0 W) ch v6→oneC v6=true→widL ts→ts.length<1800000000000→rngL ts→blkL ts≤uptoBulk y6.1→NdOK W [.int .i64 a0,.int .i64 a1,.string a2,.int .i64 a3,.int .i64 a4,.int .i64 a5,v6] (uptoBulk (DataW.agg (H:=H) [.lit (.int .i64 a0),.lit (.int .i64 a1),.lit (.string a2.data.toList),.lit (.int .i64 a3),.lit (.int .i64 a4),.lit (.int .i64 a5),y6.1])):=by
   intro ts ch hch hr h1 hwl hln hrg hbk
   refine⟨.mk a0 a1 a2.data.toList a3 a4 a5 ts,[I a0,I a1,.str a2.data.toList,I a3,I a4,I a5,ch],.mk _ _ _ _ _ _ _ _ hch,?_,?_,rfl,rfl,by rw[widN];exact⟨hln,hwl⟩,by rw[rngN];exact⟨hg1,hrg⟩,by rw[blkN];simp only[uptoBulk,uptoBulkAll];omega⟩
   ·exact .cons _ _ _ _ (.int _ _) (.cons _ _ _ _ (.int _ _) (.cons _ _ _ _ (rel_bytes _) (.cons _ _ _ _ (.int _ _) (.cons _ _ _ _ (.int _ _) (.cons _ _ _ _ (.int _ _) (.cons _ _ _ _ hr .nil))))))
   ·intro v hv
    simp only[List.mem_cons,List.not_mem_nil,or_false]at hv
    rcases hv with rfl|rfl|rfl|rfl|rfl|rfl|rfl<;>first|rfl|exact h1
  rcases DataW.trod_slice under25 k6 with ⟨hv,_⟩|⟨a,len,cap,elems,rest,n',hn',hv,rfl,hb,hlc,hm,hel,hat,_,_⟩
  ·have hv6:=(List.cons.inj hv).1
   subst hv6
   exact fin [] .nils .nil .nils rfl (by rw[widL];trivial) (by decide) (by rw[rngL];trivial) (Nat.zero_le _)
  ·have hv6:=(List.cons.inj hv).1
   subst hv6
   rw[cells27n]at hat
   unfold DataW.weights at hw6
   rw[under25]at hw6
   simp only[List.all_cons,List.all_append,Bool.and_eq_true,decide_eq_true_eq,List.length_map,bytes27n,hel]at hw6
   obtain⟨w1,w2,_⟩:=hw6
   have hLn:len<1800000000000:=by
    have:reachBytes=140737488351232:=rfl
    omega
   obtain⟨E,hE⟩:=Go.Deep.choose_lt (α:=Nd×List AV×List Value) (n:=len) (p:=fun i p=>IsN p.1 (.agg p.2.1)∧RelL (lay0 W) p.2.1 p.2.2∧(∀v∈p.2.2,oneC v=true)∧p.2.2.length=7∧p.2.1.length=7∧widN p.1∧(rngN p.1∧∀hi:i<elems.length,blkN p.1≤uptoBulk (elems[i]).1)∧∀q (h:q<p.2.2.length),W.cell? ((a.add (i*7)).add q)=some p.2.2[q]) (fun i hi=>by
    have hi':i<elems.length:=by omega
    have h1:=hat i hi
    rw[List.getElem?_eq_getElem hi',Option.bind_eq_some_iff]at h1
    obtain⟨cs',h2,h3⟩:=h1
    obtain⟨T,al,g1,g2,g3,g4,g5,g6,g7,g8⟩:=ih n' (by omega) h3 (weights_mem w2 (List.mem_map_of_mem (List.getElem_mem hi')))
    obtain⟨_,_,hc⟩:=World.cells?_some h2
    exact⟨(T,al,cs'),g1,g2,g3,g4,g5,g6,⟨g7,fun _=>g8⟩,fun q hq=>by
     have hq':q<cs'.length:=hq
     have:=hc q (by omega)
     rw[this];simp⟩)
   by_cases h0:len=0
   ·subst h0
    exact fin [] (.sl 27 7 [] .sh) (.sl _ _ .nil) (.sl0 a 27 7 .sh cap (.inl rfl)) rfl (by rw[widL];trivial) (by decide) (by rw[rngL];trivial) (Nat.zero_le _)
   ·have hsp:a.spot=none:=by
     obtain⟨_,_,_,g4,_,_,_,g7⟩:=hE 0 (by omega)
     have:=g7 0 (by omega)
     have e:(a.add (0*7)).add 0=a:=by simp[Addr.add]
     rw[e]at this
     unfold World.cell? at this
     split at this
     ·split at this
      ·cases this
      ·rename_i h;simpa using h
     ·cases this
    obtain⟨b,o,sp⟩:=a
    have hsp:sp=none:=hsp
    subst hsp
    have add_plain:∀o n,Addr.add ⟨b,o,none⟩ n=⟨b,o+n,none⟩:=fun o n=>by unfold Addr.add;split<;>simp_all
    have hrel:=rows_relC (W:=W) (b:=b) E len 0 o (fun j _ hj=>by
     obtain⟨g1,g2,g3,g4,g5,g6,_,g7⟩:=hE j (by omega)
     refine⟨g2,g3,g4,fun q hq=>?_⟩
     have:=g7 q hq
     rw[add_plain,add_plain]at this
     simpa[Nat.add_assoc] using this)
    have hlr:((List.range' 0 len).map fun j=>AV.agg (E j).2.1).length=len:=by simp
    have hR:=Rel.sl (L:=lay0 W) b o 27 7 ((List.range' 0 len).map fun j=>AV.agg (E j).2.1) .sh cap hrel (by
     intro x hx
     obtain⟨j,hj,rfl⟩:=List.mem_map.1 hx
     obtain⟨_,_,_,_,g5,_,_,_⟩:=hE j (by have:=List.mem_range'.1 hj;omega)
     exact g5) ⟨by rw[hlr];exact hlc,nofun⟩
    rw[hlr]at hR
    refine fin ((List.range' 0 len).map fun j=>(E j).1) _ (.sl _ _ (isNL_map (f:=fun j=>(E j).1) (g:=fun j=>.agg (E j).2.1) _ fun j hj=>(hE j (by have:=List.mem_range'.1 hj;omega)).1)) hR rfl (widL_map _ fun j hj=>(hE j (by have:=List.mem_range'.1 hj;omega)).2.2.2.2.2.1) (by simpa using hLn) (rngL_map _ fun j hj=>(hE j (by have:=List.mem_range'.1 hj;omega)).2.2.2.2.2.2.1.1) ?_
    have hb:=blkL_range (H:=H) (f:=fun j=>(E j).1) (elems.map (·.1)) 0 fun j hj=>by
     rw[List.length_map]at hj
     have:=(hE j (by omega)).2.2.2.2.2.2.1.2 hj
     rw[Nat.zero_add,List.getElem_map]
     exact this
    rw[List.length_map,hel]at hb
    have h3:uptoBulkAll (elems.map (·.1))≤uptoBulk (DataW.slice (elems.map (·.1)) (rest.map (·.1))):=by simp only[uptoBulk];omega
    exact Nat.le_trans hb h3
theorem node_arg {v:Value}{fuel:Nat}{x:DataW H×List MemPlace}(h:DataW.trod enc Tryz.prog W base spare held fuel 27 v.cells.toList=some x)(hw:(DataW.weights Tryz.prog 27 x.1).all (·≤reachBytes)=true) :
  ∃T a,IsN T a∧Rel (lay0 W) a v∧rngN T∧blkN T≤uptoBulk x.1:=by
 obtain⟨T,al,h1,h2,h3,h4,h5,_,h6⟩:=node_of fuel fuel (Nat.le_refl _) h hw
 refine⟨T,.agg al,h1,?_,h6⟩
 cases v with
 | agg cs=>exact .agg al cs.toList h2 h3
 | _=>exact absurd h4 (by simp[Value.cells])
end
theorem IsN.own {T:Nd}{a:AV}(h:IsN T a):a.isOwn=false:=by cases h;rfl
end ParF
end
