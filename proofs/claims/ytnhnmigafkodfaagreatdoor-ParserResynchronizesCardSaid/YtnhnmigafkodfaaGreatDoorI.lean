/- AstX, AstY, AstZ, AstQ -/
import Derived.Test.YtnhnmigafkodfaaGreatDoorG
import Derived.Test.YtnhnmigafkodfaaGreatDoorP
import Derived.Test.YtnhnmigafkodfaaGreatDoorH
set_option linter.all false
set_option maxRecDepth 100000

section
namespace Pm
abbrev tE:Tok:=(100,[])
abbrev tC:Tok:=(104,wConst)
abbrev tK:Tok:=(103,[107])
abbrev tS:Tok:=(107,wColon)
abbrev tP:Tok:=(104,wPub)
def Ins (c:Cnd):Prop:=(c tC tK tS=c tE tE tE)∧(∀a,atT [wPub] a=false→c a tC tK=c a tE tE)∧∀a b,c a b tC=c a b tE
def Cg:G→Prop
 | .seq a b=>Cg a∧Cg b
 | .node _ g=>Cg g
 | .wrap _ g=>Cg g
 | .ite c a b=>Ins c∧Cg a∧Cg b
 | .bra g a b=>Cg g∧Cg a∧Cg b
 | .prog g a b=>Cg g∧Cg a∧Cg b
 | .stm g b=>Cg g∧Cg b
 | .whil c g=>Ins c∧Cg g
 | _=>True
def Lp (s:List Tok):Prop:=∀t,s.getLast?=some t→atT [wPub] t=false
theorem Lp.drop {s:List Tok}(h:Lp s)(k:Nat):Lp (s.drop k):=by
 intro t ht
 rw[List.getLast?_drop]at ht
 split at ht
 ·cases ht
 ·exact h t ht
theorem Ins.ev {c:Cnd}(i:Ins c){s:List Tok}(h:Lp s)(w:List Tok):evs c (s++tC::tK::tS::w)=evs c s:=by
 match s,h with
 | [],h=>exact i.1
 | [a],h=>exact i.2.1 a (h a rfl)
 | [a,b],h=>exact i.2.2 a b
 | a::b::c::r,h=>rfl
theorem sg_app (a b:List Tok):sg (a++b)=sg a++sg b:=by unfold sg;rw[List.filter_append]
theorem sg_none {t:List Tok}(h:skp t=[]):sg t=[]:=by
 rcases skp_sg t with ⟨_,k⟩|⟨a,r,k,_,_⟩
 ·exact k
 ·rw[k]at h;cases h
theorem takeWhile_app {xs t:List Tok}(h:skp xs≠[]):(xs++t).takeWhile triv=xs.takeWhile triv:=by
 induction xs with
 | nil=>exact absurd rfl h
 | cons x xs ih =>
  rw[List.cons_append,List.takeWhile_cons,List.takeWhile_cons]
  rw[skp_cons]at h
  cases hx:triv x with
  | true=>rw[hx,if_pos rfl]at h;rw[if_pos rfl,if_pos rfl,ih h]
  | false=>rfl
theorem lp_drop:∀(z:List Tok)(k:Nat),Lp (sg z)→Lp (sg (z.drop k))
 | [],k,l=>by rw[List.drop_nil];exact l
 | a::z,0,l=>l
 | a::z,k+1,l=>by
  rw[List.drop_succ_cons]
  refine lp_drop z k ?_
  rw[sg_cons]at l
  split at l
  ·exact l
  ·exact l.drop 1
section
variable {t v:List Tok}(ht:skp t=[]){w:List Tok}(hv:sg v=tC::tK::tS::w)
include ht hv
theorem ev_stop {c:Cnd}(i:Ins c){xs:List Tok}(l:Lp (sg (xs++t))):ev c (xs++v)=ev c (xs++t):=by
 rw[ev_sg,ev_sg,sg_app,sg_app,sg_none ht,List.append_nil,hv]
 rw[sg_app,sg_none ht,List.append_nil]at l
 exact i.ev l w
theorem lp_of {xs ys:List Tok}(l:Lp (sg (xs++t)))(h:∃k,ys++t=(xs++t).drop k):Lp (sg (ys++t)):=by
 obtain⟨k,e⟩:=h
 rw[e]
 exact lp_drop _ k l
theorem len_stop {xs ys:List Tok}:(ys++t).length=(xs++t).length↔(ys++v).length=(xs++v).length:=by
 simp only[List.length_append];omega
theorem runs_stop (hc:∀f,Cg (defs f)){g:G}{ts:List Tok}{cs:List Tree}{r:Bool}{ts':List Tok}{cs':List Tree}(h:Runs g ts cs r ts' cs') :
  ∀{P:Pr} {Q:Bool→Pr},Ok P g Q→Cg g→∀xs,ts=xs++t→P (sg ts)→Lp (sg ts)→∃ys,ts'=ys++t∧Runs g (xs++v) cs r (ys++v) cs'∧Q r (sg ts'):=by
 induction h with
 | ret b ts cs =>
  intro P Q ho hg xs e hp l
  cases ho with
  | ret h=>exact⟨xs,e,.ret _ _ _,h _ hp⟩
 | bump ts cs =>
  intro P Q ho hg xs e hp l
  cases ho with
  | bump h =>
   obtain⟨h1,h2⟩:=h _ hp
   subst e
   have hx:skp xs≠[]:=fun k=>h1 (by rw[sg_app,sg_none k,sg_none ht];rfl)
   refine⟨la xs,by rw[la_app,if_neg hx],?_,by rw[sg_la];exact h2⟩
   have:=Runs.bump (xs++v) cs
   rw[la_app,if_neg hx]at this
   have e1:(xs++v).takeWhile triv=(xs++t).takeWhile triv:=by rw[takeWhile_app hx,takeWhile_app hx]
   have e2:(skp (xs++v)).take 1=(skp (xs++t)).take 1:=by
    rw[skp_app,skp_app,if_neg hx,if_neg hx]
    cases hs:skp xs with
    | nil=>exact absurd hs hx
    | cons a q=>rfl
   rw[e1,e2]at this
   exact this
 | put k ts cs =>
  intro P Q ho hg xs e hp l
  cases ho with
  | put h=>exact⟨xs,e,.put _ _ _,h _ hp⟩
 | @seq a b ts ts1 ts2 cs cs1 cs2 b1 b2 h1 h2 i1 i2 =>
  intro P Q ho hg xs e hp l
  cases ho with
  | seq o1 o2 =>
   obtain⟨ys,e1,r1,q1⟩:=i1 o1 hg.1 xs e hp l
   subst e e1
   obtain⟨zs,e2,r2,q2⟩:=i2 o2 hg.2 ys rfl ⟨_,q1⟩ (lp_of ht hv l (runs_drop h1))
   exact⟨zs,e2,.seq r1 r2,q2⟩
 | @node k g ts ts1 ds0 b cs hk h i =>
  intro P Q ho hg xs e hp l
  cases ho with
  | node o =>
   obtain⟨ys,e1,r1,q1⟩:=i o hg xs e hp l
   exact⟨ys,e1,.node cs hk r1,q1⟩
 | @wrap k g ts ts1 ds0 t' b cs hk h i =>
  intro P Q ho hg xs e hp l
  cases ho with
  | wrap o =>
   obtain⟨ys,e1,r1,q1⟩:=i o hg xs e hp l
   exact⟨ys,e1,.wrap cs hk r1,q1⟩
 | @ite1 c a b ts ts1 cs cs1 r hc' h i =>
  intro P Q ho hg xs e hp l
  cases ho with
  | ite o1 o2 =>
   have hc2:=hc'
   rw[ev_sg]at hc2
   obtain⟨ys,e1,r1,q1⟩:=i o1 hg.2.1 xs e ⟨hp,hc2⟩ l
   subst e
   exact⟨ys,e1,.ite1 (by rw[ev_stop ht hv hg.1 l];exact hc') r1,q1⟩
 | @ite2 c a b ts ts1 cs cs1 r hc' h i =>
  intro P Q ho hg xs e hp l
  cases ho with
  | ite o1 o2 =>
   have hc2:=hc'
   rw[ev_sg]at hc2
   obtain⟨ys,e1,r1,q1⟩:=i o2 hg.2.2 xs e ⟨hp,hc2⟩ l
   subst e
   exact⟨ys,e1,.ite2 (by rw[ev_stop ht hv hg.1 l];exact hc') r1,q1⟩
 | @bra1 g a b ts ts1 ts2 cs cs1 cs2 r h1 h2 i1 i2 =>
  intro P Q ho hg xs e hp l
  cases ho with
  | bra o1 o2 o3 =>
   obtain⟨ys,e1,r1,q1⟩:=i1 o1 hg.1 xs e hp l
   subst e e1
   obtain⟨zs,e2,r2,q2⟩:=i2 o2 hg.2.1 ys rfl q1 (lp_of ht hv l (runs_drop h1))
   exact⟨zs,e2,.bra1 r1 r2,q2⟩
 | @bra2 g a b ts ts1 ts2 cs cs1 cs2 r h1 h2 i1 i2 =>
  intro P Q ho hg xs e hp l
  cases ho with
  | bra o1 o2 o3 =>
   obtain⟨ys,e1,r1,q1⟩:=i1 o1 hg.1 xs e hp l
   subst e e1
   obtain⟨zs,e2,r2,q2⟩:=i2 o3 hg.2.2 ys rfl q1 (lp_of ht hv l (runs_drop h1))
   exact⟨zs,e2,.bra2 r1 r2,q2⟩
 | @prog1 g a b ts ts1 ts2 cs cs1 cs2 r q h1 hl1 h2 i1 i2 =>
  intro P Q ho hg xs e hp l
  cases ho with
  | prog o1 o2 o3 =>
   obtain⟨ys,e1,r1,q1⟩:=i1 o1 hg.1 xs e hp l
   have ee:=runs_eq h1 hl1
   subst e e1
   obtain⟨zs,e2,r2,q2⟩:=i2 o2 hg.2.1 ys rfl (by rw[ee];exact hp) (lp_of ht hv l (runs_drop h1))
   exact⟨zs,e2,.prog1 r1 ((len_stop ht hv).1 hl1) r2,q2⟩
 | @prog2 g a b ts ts1 ts2 cs cs1 cs2 r q h1 hl1 h2 i1 i2 =>
  intro P Q ho hg xs e hp l
  cases ho with
  | prog o1 o2 o3 =>
   obtain⟨ys,e1,r1,q1⟩:=i1 o1 hg.1 xs e hp l
   subst e e1
   obtain⟨zs,e2,r2,q2⟩:=i2 o3 hg.2.2 ys rfl ⟨_,q1⟩ (lp_of ht hv l (runs_drop h1))
   exact⟨zs,e2,.prog2 r1 (fun k=>hl1 ((len_stop ht hv).2 k)) r2,q2⟩
 | @stm1 g b ts ts1 ts2 cs cs1 cs2 t' r q h1 hl1 ht' h2 i1 i2 =>
  intro P Q ho hg xs e hp l
  cases ho with
  | stm o1 hn o3 =>
   obtain⟨ys,e1,r1,q1⟩:=i1 o1 hg.1 xs e hp l
   have ee:=runs_eq h1 hl1
   subst e e1
   rw[←ee]at hp
   obtain⟨zs,e2,r2,q2⟩:=i2 (P:=P) (Q:=fun r s=>Q false s) (.seq (R:=fun _ s=>Q false s) (.node (.bump hn)) (.ret fun s ⟨_,hs⟩=>hs)) ⟨trivial,trivial⟩ ys rfl hp (lp_of ht hv l (runs_drop h1))
   have hr:r=false:=by
    cases h2 with
    | seq _ g2=>cases g2;rfl
   exact⟨zs,e2,.stm1 r1 ((len_stop ht hv).1 hl1) ht' r2,by rw[hr];exact q2⟩
 | @stm2 g b ts ts1 ts2 cs cs1 cs2 r q h1 hl1 h2 i1 i2 =>
  intro P Q ho hg xs e hp l
  cases ho with
  | stm o1 hn o3 =>
   obtain⟨ys,e1,r1,q1⟩:=i1 o1 hg.1 xs e hp l
   subst e e1
   obtain⟨zs,e2,r2,q2⟩:=i2 o3 hg.2 ys rfl ⟨_,q1⟩ (lp_of ht hv l (runs_drop h1))
   exact⟨zs,e2,.stm2 r1 (fun k=>hl1 ((len_stop ht hv).2 k)) r2,q2⟩
 | whil0 hc' =>
  intro P Q ho hg xs e hp l
  cases ho with
  | whil o ht' hq =>
   subst e
   exact⟨xs,rfl,.whil0 (by rw[ev_stop ht hv hg.1 l];exact hc'),hq _⟩
 | whil1 hc' h i =>
  intro P Q ho hg xs e hp l
  cases ho with
  | whil o ht' hq =>
   have hc2:=hc'
   rw[ev_sg]at hc2
   obtain⟨ys,e1,r1,q1⟩:=i o hg.2 xs e hc2 l
   subst e
   exact⟨ys,e1,.whil1 (by rw[ev_stop ht hv hg.1 l];exact hc') r1,ht' _ q1⟩
 | @whil2 c g ts ts1 ts2 cs cs1 cs2 r hc' h1 h2 i1 i2 =>
  intro P Q ho hg xs e hp l
  cases ho with
  | whil o ht' hq =>
   have hc2:=hc'
   rw[ev_sg]at hc2
   obtain⟨ys,e1,r1,q1⟩:=i1 o hg.2 xs e hc2 l
   subst e e1
   obtain⟨zs,e2,r2,q2⟩:=i2 (P:=T) (Q:=Q) (.whil o ht' hq) hg ys rfl trivial (lp_of ht hv l (runs_drop h1))
   exact⟨zs,e2,.whil2 (by rw[ev_stop ht hv hg.1 l];exact hc') r1 r2,q2⟩
 | insN ts cs t' =>
  intro P Q ho hg xs e hp l
  cases ho with
  | insN h=>exact⟨xs,e,.insN _ _ _,h _ hp⟩
 | @call f ts ts1 cs cs1 r h i =>
  intro P Q ho hg xs e hp l
  cases ho with
  | call h2 hq =>
   obtain⟨ys,e1,r1,q1⟩:=i (defs_ok f) (hc f) xs e (fun k=>h2 k _ hp) l
   exact⟨ys,e1,.call r1,hq _ _⟩
end
theorem ins_at (ws:List Bytes)(h:ws.contains wConst=false):Ins (rAt ws):=by
 refine⟨?_,fun _ _=>rfl,fun _ _=>rfl⟩
 show (true&&ws.contains wConst)=(false&&ws.contains [])
 rw[h];rfl
theorem ins_id:Ins rId:=⟨rfl,fun _ _=>rfl,fun _ _=>rfl⟩
theorem ins_kind {k:Nat}(h:k≠104∧k≠100):Ins (rKind k):=by
 refine⟨?_,fun _ _=>rfl,fun _ _=>rfl⟩
 show ((104:Nat)==k)=((100:Nat)==k)
 rw[beq_false_of_ne (fun e=>h.1 e.symm),beq_false_of_ne (fun e=>h.2 e.symm)]
theorem ins_more (cl:Bytes):Ins (gMore cl):=by
 refine⟨?_,fun _ _=>rfl,fun _ _=>rfl⟩
 have:isItem tC=true:=by decide
 show (!atT [cl] tC&&true&&!isItem tC)=(!atT [cl] tE&&false&&!isItem tE)
 rw[this];simp
theorem c_expect {w:Bytes}(h:[w].contains wConst=false):Cg (gExpect w):=⟨ins_at _ h,trivial,trivial⟩
theorem c_ident:Cg gIdent:=⟨ins_id,trivial,trivial⟩
theorem c_opt {w:Bytes}(h:[w].contains wConst=false){g:G}(k:Cg g):Cg (gOpt w g):=⟨ins_at _ h,⟨trivial,k⟩,trivial⟩
theorem c_if {ws:List Bytes}(h:ws.contains wConst=false){g:G}(k:Cg g):Cg (gIf ws g):=⟨ins_at _ h,⟨trivial,k⟩,trivial⟩
theorem c_list {cl:Bytes}(h:[cl].contains wConst=false){el:G}(k:Cg el):Cg (gList cl el):=⟨⟨ins_more _,k,trivial,ins_at _ h,trivial,c_expect (by decide)⟩,c_expect h⟩
theorem c_seg (ty:Bool):Cg (gSeg ty):=⟨c_ident,by cases ty<;>first|trivial|exact c_if (by decide) (c_list (by decide) trivial)⟩
theorem c_path (ty:Bool):Cg (gPath ty):=⟨c_seg ty,ins_at _ (by decide),trivial,c_seg ty⟩
theorem c_type:Cg gType:=⟨ins_at _ (by decide),⟨trivial,c_if (by decide) trivial,trivial⟩,ins_at _ (by decide),⟨trivial,c_expect (by decide),c_list (by decide) trivial,c_opt (by decide) trivial⟩,ins_id,c_path _,trivial⟩
theorem c_typeParam:Cg gTypeParam:=⟨ins_id,⟨trivial,c_if (by decide) ⟨c_path _,ins_at _ (by decide),trivial,c_path _⟩⟩,trivial⟩
theorem c_typeParams:Cg gTypeParams:=c_if (by decide) (c_list (by decide) c_typeParam)
theorem c_param:Cg gParam:=⟨ins_id,⟨trivial,c_opt (by decide) trivial⟩,trivial⟩
theorem c_params {cl:Bytes}(h:[cl].contains wConst=false):Cg (gParams cl):=c_list h c_param
theorem c_function (nb:Bool):Cg (gFunction nb):=⟨c_ident,c_typeParams,c_expect (by decide),c_params (by decide),c_opt (by decide) trivial,by cases nb<;>first|trivial|exact⟨ins_at _ (by decide),⟨trivial,trivial⟩,trivial⟩⟩
theorem c_data (st:Bool):Cg (gData st):=⟨c_ident,c_typeParams,c_expect (by decide),c_list (by decide) ⟨ins_id,by cases st<;>first|exact(⟨trivial,c_if (by decide) (c_list (by decide) trivial)⟩:Cg gVariant)|exact(⟨trivial,c_expect (by decide),trivial⟩:Cg gField),trivial⟩⟩
theorem c_assoc:Cg gAssoc:=⟨trivial,c_ident,c_opt (by decide) trivial,c_expect (by decide)⟩
theorem c_members:Cg gMembers:=⟨c_expect (by decide),⟨ins_at _ (by decide),ins_at _ (by decide),⟨trivial,c_function _,trivial⟩,c_assoc⟩,c_expect (by decide)⟩
theorem c_impl:Cg gImpl:=⟨c_typeParams,trivial,⟨ins_at _ (by decide),⟨trivial,trivial⟩,trivial⟩,c_members⟩
theorem c_use:Cg gUse:=⟨⟨⟨c_ident,ins_at _ (by decide),⟨by decide,fun _ _=>rfl,fun _ _=>rfl⟩,trivial,trivial,c_ident,trivial⟩,⟨trivial,trivial⟩,c_if (by decide) c_ident⟩,c_expect (by decide)⟩
theorem c_const:Cg gConst:=⟨c_ident,c_expect (by decide),trivial,c_expect (by decide),trivial,c_expect (by decide)⟩
theorem c_macro:Cg gMacro:=⟨c_ident,c_expect (by decide),c_params (by decide),c_expect (by decide),trivial,c_expect (by decide)⟩
theorem c_body (k:Nat):Cg (gBody k):=by
 unfold gBody
 split
 ·exact c_use
 ·exact c_function _
 ·exact c_data _
 ·exact c_data _
 ·exact⟨c_ident,c_members⟩
 ·exact c_impl
 ·exact c_const
 ·exact c_macro
theorem c_itemAs (k:Nat):Cg (gItemAs k):=⟨c_if (by decide) trivial,trivial,c_body k⟩
theorem c_skip:Cg gSkip:=⟨trivial,⟨by decide,fun _ _=>rfl,fun _ _=>rfl⟩,trivial⟩
theorem c_block:Cg gBlock:=⟨c_expect (by decide),⟨⟨⟨by decide,fun _ _=>rfl,fun _ _=>rfl⟩,trivial⟩,trivial,trivial⟩,c_expect (by decide)⟩
theorem c_stm (bl:Bool){g:G}(h:Cg g):Cg (gStm bl g):=⟨h,ins_at _ (by decide),trivial,ins_at _ (by decide),⟨⟨trivial,trivial,c_expect (by decide)⟩,trivial⟩,⟨ins_at _ (by decide),trivial,by cases bl<;>trivial⟩,trivial⟩
theorem c_statement:Cg gStatement:=⟨ins_at _ (by decide),⟨⟨trivial,trivial,c_opt (by decide) trivial,c_expect (by decide),trivial,c_expect (by decide)⟩,trivial⟩,ins_at _ (by decide),⟨⟨trivial,trivial,trivial⟩,trivial⟩,ins_at _ (by decide),⟨⟨trivial,⟨ins_at _ (by decide),trivial,trivial⟩,c_expect (by decide)⟩,trivial⟩,ins_at _ (by decide),c_stm _ trivial,c_stm _ trivial⟩
theorem c_binary (l:Nat):Cg (gBinary l):=⟨trivial,⟨ins_at _ (by unfold binOps;split<;>decide),⟨trivial,trivial⟩,trivial⟩,trivial⟩
theorem c_args:Cg gArgs:=⟨trivial,c_list (by decide) trivial⟩
theorem c_postfix:Cg gPostfix:=⟨ins_at _ (by decide),ins_at _ (by decide),c_args,⟨by decide,fun _ _=>rfl,fun a b=>by
 show (b.1==103&&false)=(b.1==103&&false)
 rfl⟩,⟨trivial,trivial,c_args⟩,⟨trivial,c_ident⟩⟩
theorem c_unary:Cg gUnary:=⟨ins_at _ (by decide),⟨trivial,trivial⟩,ins_at _ (by decide),⟨trivial,c_if (by decide) trivial,trivial⟩,trivial,c_postfix⟩
theorem c_arm:Cg gArm:=⟨⟨by decide,fun _ _=>rfl,fun _ _=>rfl⟩,⟨trivial,c_expect (by decide),trivial⟩,trivial⟩
theorem c_match:Cg gMatch:=⟨trivial,trivial,c_expect (by decide),c_list (by decide) c_arm⟩
theorem c_init:Cg gInit:=⟨ins_id,⟨trivial,c_expect (by decide),trivial⟩,trivial⟩
theorem c_lit:Cg gLit:=⟨trivial,c_path _,c_expect (by decide),c_list (by decide) c_init⟩
theorem c_lambda:Cg gLambda:=⟨⟨ins_at _ (by decide),⟨trivial,trivial⟩,trivial,c_params (by decide)⟩,trivial⟩
theorem c_paren:Cg gParen:=⟨trivial,trivial,c_expect (by decide)⟩
theorem c_primary:Cg gPrimary:=⟨ins_kind (by decide),trivial,ins_kind (by decide),trivial,ins_at _ (by decide),trivial,ins_id,⟨c_path _,⟨by decide,fun a _=>by
 show (atT [wBang] a&&false)=(atT [wBang] a&&false)
 rfl,fun _ _=>rfl⟩,⟨trivial,c_args⟩,trivial⟩,ins_at _ (by decide),c_paren,ins_at _ (by decide),trivial,ins_at _ (by decide),trivial,ins_at _ (by decide),c_match,ins_at _ (by decide),c_lit,ins_at _ (by decide),c_lambda,trivial⟩
theorem c_ifExpr:Cg gIfExpr:=⟨trivial,trivial,trivial,c_opt (by decide) ⟨ins_at _ (by decide),trivial,trivial⟩⟩
theorem c_pattern:Cg gPattern:=⟨ins_at _ (by decide),⟨trivial,c_ident⟩,⟨by decide,fun _ _=>rfl,fun _ _=>rfl⟩,trivial,⟨by decide,fun a _=>by
 show (a.1==103&&true)=(a.1==103&&true)
 rfl,fun _ _=>rfl⟩,trivial,ins_id,⟨c_path _,c_if (by decide) (c_list (by decide) trivial)⟩,ins_kind (by decide),trivial,ins_at _ (by decide),trivial,trivial⟩
theorem defs_cg (f:Nat):Cg (defs f):=by
 unfold defs
 split
 ·exact c_type
 ·exact c_block
 ·exact c_statement
 ·exact c_primary
 ·exact c_pattern
 ·exact c_ifExpr
 ·exact c_binary _
 ·exact c_binary _
 ·exact c_binary _
 ·exact c_binary _
 ·exact c_binary _
 ·exact c_unary
end Pm
end

section
namespace Pm
theorem ite_two {c:Cnd}{a b:G}{ts us:List Tok}{cs cs':List Tree}{r:Bool}{t1:List Tok}(e:ev c us=ev c ts)(h:Runs (.ite c a b) ts cs r t1 cs') :
  (ev c ts=true∧Runs a ts cs r t1 cs'∧∀u1,Runs a us cs r u1 cs'→Runs (.ite c a b) us cs r u1 cs')∨(ev c ts=false∧Runs b ts cs r t1 cs'∧∀u1,Runs b us cs r u1 cs'→Runs (.ite c a b) us cs r u1 cs'):=by
 cases h with
 | ite1 hc h=>exact .inl ⟨hc,h,fun u1 k=>.ite1 (e.trans hc) k⟩
 | ite2 hc h=>exact .inr ⟨hc,h,fun u1 k=>.ite2 (e.trans hc) k⟩
section
variable {t v:List Tok}(ht:skp t=[]){w:List Tok}(hv:sg v=tC::tK::tS::w)
include ht hv
theorem is_stop (k:Nat){xs:List Tok}(l:Lp (sg (xs++t)))(hne:sg (xs++t)≠[]):ev (itemIs k) (xs++v)=ev (itemIs k) (xs++t):=by
 rw[ev_sg,ev_sg,sg_app,sg_app,sg_none ht,List.append_nil,hv]
 rw[sg_app,sg_none ht,List.append_nil]at l hne
 have l':=l
 match hs:sg xs,l,hne with
 | [],_,hne=>exact absurd rfl hne
 | [a],l,_ =>
  have ha:atT [wPub] a=false:=l a rfl
  show (let x:=if atT [wPub] a then tC else a;kindOf x.2==k&&x.1==104)=(let x:=if atT [wPub] a then tE else a;kindOf x.2==k&&x.1==104)
  rw[ha];rfl
 | a::b::r,_,_=>rfl
theorem item_stop {xs:List Tok}{b:Bool}{t1:List Tok}{cs':List Tree}(h:Runs gItem (xs++t) [] b t1 cs')(l:Lp (sg (xs++t)))(hne:sg (xs++t)≠[]):∃ys,t1=ys++t∧Runs gItem (xs++v) [] b (ys++v) cs':=by
 have asx:∀k,ev (itemIs k) (xs++t)=true→Runs (gItemAs k) (xs++t) [] b t1 cs'→∃ys,t1=ys++t∧Runs (gItemAs k) (xs++v) [] b (ys++v) cs':=by
  intro k hk h
  rw[ev_sg]at hk
  obtain⟨ys,e,r,-⟩:=runs_stop ht hv defs_cg h (P:=fun s=>evs (itemIs k) s=true) (ok_itemAs k fun s h=>h) (c_itemAs k) xs rfl hk l
  exact⟨ys,e,r⟩
 have st:∀k,ev (itemIs k) (xs++v)=ev (itemIs k) (xs++t):=fun k=>is_stop ht hv k l hne
 unfold gItem at h ⊢
 rcases ite_two (st 2) h with ⟨c,h,f⟩|⟨c,h,f2⟩
 ·obtain⟨ys,e,r⟩:=asx 2 c h;exact⟨ys,e,f _ r⟩
 rcases ite_two (st 3) h with ⟨c,h,f⟩|⟨c,h,f3⟩
 ·obtain⟨ys,e,r⟩:=asx 3 c h;exact⟨ys,e,f2 _ (f _ r)⟩
 rcases ite_two (st 4) h with ⟨c,h,f⟩|⟨c,h,f4⟩
 ·obtain⟨ys,e,r⟩:=asx 4 c h;exact⟨ys,e,f2 _ (f3 _ (f _ r))⟩
 rcases ite_two (st 5) h with ⟨c,h,f⟩|⟨c,h,f5⟩
 ·obtain⟨ys,e,r⟩:=asx 5 c h;exact⟨ys,e,f2 _ (f3 _ (f4 _ (f _ r)))⟩
 rcases ite_two (st 6) h with ⟨c,h,f⟩|⟨c,h,f6⟩
 ·obtain⟨ys,e,r⟩:=asx 6 c h;exact⟨ys,e,f2 _ (f3 _ (f4 _ (f5 _ (f _ r))))⟩
 rcases ite_two (st 7) h with ⟨c,h,f⟩|⟨c,h,f7⟩
 ·obtain⟨ys,e,r⟩:=asx 7 c h;exact⟨ys,e,f2 _ (f3 _ (f4 _ (f5 _ (f6 _ (f _ r)))))⟩
 rcases ite_two (st 8) h with ⟨c,h,f⟩|⟨c,h,f8⟩
 ·obtain⟨ys,e,r⟩:=asx 8 c h;exact⟨ys,e,f2 _ (f3 _ (f4 _ (f5 _ (f6 _ (f7 _ (f _ r))))))⟩
 rcases ite_two (st 9) h with ⟨c,h,f⟩|⟨c,h,f9⟩
 ·obtain⟨ys,e,r⟩:=asx 9 c h;exact⟨ys,e,f2 _ (f3 _ (f4 _ (f5 _ (f6 _ (f7 _ (f8 _ (f _ r)))))))⟩
 obtain⟨ys,e,r,-⟩:=runs_stop ht hv defs_cg h (P:=fun s=>s≠[]) (ok_skip fun s h=>h) c_skip xs rfl hne l
 exact⟨ys,e,f2 _ (f3 _ (f4 _ (f5 _ (f6 _ (f7 _ (f8 _ (f9 _ r)))))))⟩
theorem items_stop {ts:List Tok}{es:List Tree}{t':List Tok}(h:Items ts es t'):∀xs,ts=xs++t→Lp (sg ts)→(∀u∈ts,u.1≠100) →
  ∃ys,t'=ys++t∧skp ys=[]∧∀es2 t2,Items (ys++v) es2 t2→Items (xs++v) (es++es2) t2:=by
 induction h with
 | done ts h =>
  intro xs e l hk
  refine⟨xs,e,?_,fun es2 t2 h2=>h2⟩
  have:=(end_drop hk h).1
  exact skp_all fun u hu=>this u (by rw[e];exact List.mem_append_left _ hu)
 | @step ts t1 t' x es b h hi hr ih =>
  intro xs e l hk
  subst e
  have hne:sg (xs++t)≠[]:=fun q=>by
   rw[pk_sg,q]at h;exact h rfl
  obtain⟨ys,e1,r1⟩:=item_stop ht hv hi l hne
  subst e1
  obtain⟨zs,e2,s2,k2⟩:=ih ys rfl (lp_of ht hv l (runs_drop hi)) (fun u hu=>by
   obtain⟨k,q⟩:=runs_drop hi
   rw[q]at hu
   exact hk u (List.mem_of_mem_drop hu))
  refine⟨zs,e2,s2,fun es2 t2 h2=>?_⟩
  refine .step ?_ r1 (k2 es2 t2 h2)
  rw[pk_sg,sg_app]
  rw[pk_sg,sg_app,sg_none ht,List.append_nil]at h
  rw[sg_app,sg_none ht,List.append_nil]at hne
  cases hs:sg xs with
  | nil=>exact absurd hs hne
  | cons a q=>rw[hs]at h;exact h
end
theorem const_pre {A u w:List Tok}(hA:skp A=[])(hA':∀t∈A,triv t=true)(hu:sg u=tC::tK::tS::w){b:Bool}{t1:List Tok}{x:Tree}(h:Runs gItem u [] b t1 [x]) :
  ∃c0,x=.mk 8 [] c0∧Runs gItem (A++u) [] b t1 [.mk 8 [] (A.map leaf++c0)]:=by
 have e1:∀c:Cnd,ev c (A++u)=ev c u:=fun c=>by rw[ev_sg,ev_sg,sg_app,sg_none hA];rfl
 have cv:∀c:Cnd,ev c u=c tC tK tS:=fun c=>by rw[ev_sg,hu];rfl
 have no:∀k,k≠8→ev (itemIs k) u=false:=fun k hk=>by
  rw[cv]
  show (kindOf wConst==k&&true)=false
  have:kindOf wConst=8:=by decide
  rw[this,Bool.and_true]
  exact beq_false_of_ne fun e=>hk e.symm
 have yes:ev (itemIs 8) u=true:=by rw[cv];decide
 have skip:∀{k:Nat} {g:G} {cs:List Tree} {z:List Tok} {cs':List Tree} {f:G},k≠8→Runs (.ite (itemIs k) f g) u cs b z cs'→Runs g u cs b z cs':=fun hk h=>by
  cases h with
  | ite1 hc _=>rw[no _ hk]at hc;cases hc
  | ite2 _ h=>exact h
 have back:∀{k:Nat} {g:G} {cs:List Tree} {z:List Tok} {cs':List Tree} {f:G},k≠8→Runs g (A++u) cs b z cs'→Runs (.ite (itemIs k) f g) (A++u) cs b z cs':=fun hk h=>.ite2 ((e1 _).trans (no _ hk)) h
 unfold gItem at h
 have h:=skip (by decide) (skip (by decide) (skip (by decide) (skip (by decide) (skip (by decide) (skip (by decide) h)))))
 have h8:Runs (gItemAs 8) u [] b t1 [x]:=by
  cases h with
  | ite1 _ h=>exact h
  | ite2 hc _=>rw[yes]at hc;cases hc
 obtain⟨ds,hx,hr⟩:∃ds,[x]=[]++[Tree.mk 8 [] ds]∧Runs (.seq (gIf [wPub] nop) (.seq .bump (gBody 8))) u [] b t1 ds:=by
  generalize hz:[x]=z at h8
  cases h8 with
  | node _ hk h=>exact⟨_,rfl,h⟩
 cases hx
 refine⟨ds,rfl,?_⟩
 have np:ev (rAt [wPub]) u=false:=by rw[cv];decide
 cases hr with
 | seq g1 g2 =>
  cases g1 with
  | ite1 hc _=>rw[np]at hc;cases hc
  | ite2 hc g1 =>
   cases g1
   cases g2 with
   | seq g3 g4 =>
    cases g3
    have f:=runs_frame g4 (A.map leaf)
    have b2:=Runs.bump (A++u) []
    have hs:skp (A++u)=skp u:=by rw[skp_app,if_pos hA]
    have hl:la (A++u)=la u:=by rw[la_app,if_pos hA]
    have hw:(A++u).takeWhile triv=A++u.takeWhile triv:=by
     rw[List.takeWhile_append_of_pos hA']
    rw[hs,hl,hw,List.map_append,List.nil_append,List.append_assoc]at b2
    rw[List.nil_append]at f
    unfold gItem
    refine back (by decide) (back (by decide) (back (by decide) (back (by decide) (back (by decide) (back (by decide) (.ite1 ((e1 _).trans yes) ?_))))))
    have n8:=Runs.node (k:=8) [] (by decide) (.seq (.ite2 (a:=.seq .bump nop) ((e1 _).trans np) (.ret false (A++u) [])) (.seq b2 f))
    exact n8
theorem items_pre {A u w:List Tok}(hA:skp A=[])(hA':∀t∈A,triv t=true)(hu:sg u=tC::tK::tS::w){es:List Tree}{t':List Tok}(h:Items u es t') :
  ∃c0 rest,es=.mk 8 [] c0::rest∧Items (A++u) (.mk 8 [] (A.map leaf++c0)::rest) t':=by
 have hp:(pk u).1≠100:=by rw[pk_sg,hu];exact(by decide:(104:Nat)≠100)
 have hp':(pk (A++u)).1≠100:=by rw[pk_sg,sg_app,sg_none hA,List.nil_append,hu];exact(by decide:(104:Nat)≠100)
 cases h with
 | done _ h=>exact absurd h hp
 | step h hi hr =>
  obtain⟨c0,rfl,k⟩:=const_pre hA hA' hu hi
  exact⟨c0,_,rfl,.step hp' k hr⟩
end Pm
end

section
namespace Pm
theorem tokH_HA (k:Int){h h':Hd}(a:HA h h')(c:Nat)(x:Bytes)(o:Nat):HA (tokH k h c x o).1 (tokH k h' c x o).1:=by
 have ex:∀q q':Hd,HA q q'→HA (q.ext o (o+x.length)) (q'.ext o (o+x.length)):=fun q q' i=>i.ext (by omega) (by omega)
 have a':=a
 obtain⟨a1,a2,a3,a4⟩:=a'
 unfold tokH
 by_cases c1:c=101∨c=102
 ·rw[if_pos c1,if_pos c1];exact a
 rw[if_neg c1,if_neg c1]
 by_cases c2:c=108
 ·rw[if_pos c2,if_pos c2]
  by_cases c3:x=[]
  ·rw[if_pos c3,if_pos c3];exact a
  ·rw[if_neg c3,if_neg c3];exact ex _ _ a
 rw[if_neg c2,if_neg c2]
 by_cases c3:c=103
 ·rw[if_pos c3,if_pos c3]
  unfold identH
  have hn:decide (h.ns<0)=decide (h'.ns<0):=by rw[decide_eq_decide];exact a4
  rw[hn]
  refine ex _ _ ?_
  simp only
  split
  ·exact⟨a1,rfl,a3,Iff.rfl⟩
  ·exact a
 rw[if_neg c3,if_neg c3]
 by_cases c4:c=105
 ·rw[if_pos c4,if_pos c4];exact ex _ _ ⟨rfl,a2,a3,a4⟩
 rw[if_neg c4,if_neg c4]
 by_cases c5:c=106
 ·rw[if_pos c5,if_pos c5];exact ex _ _ ⟨a1,rfl,a3,a4⟩
 rw[if_neg c5,if_neg c5]
 refine ex _ _ ?_
 unfold flagH
 rw[a1,a2]
 repeat' split
 all_goals exact⟨(by first|rfl|assumption),(by first|rfl|assumption),a3,a4⟩
theorem kids_HA (src:Bytes)(k:Int):∀(o:Nat)(h h':Hd)(ts:List Tree),okL ts=true→HA h h'→HA (kidsB src k o h ts).h (kidsB src k o h' ts).h∧(kidsB src k o h ts).ns=(kidsB src k o h' ts).ns
 | o,h,h',[],_,a=>by rw[kidsB_nil,kidsB_nil];exact⟨a,rfl⟩
 | o,h,h',t::ts,ok,a=>by
  rw[okL_cons,Bool.and_eq_true]at ok
  by_cases c:100≤t.kind
  ·rw[kidsB_leaf _ _ _ _ _ _ c,kidsB_leaf _ _ _ _ _ _ c]
   exact kids_HA src k _ _ _ ts ok.2 (tokH_HA k a _ _ _)
  ·rw[kidsB_node _ _ _ _ _ _ c,kidsB_node _ _ _ _ _ _ c]
   have r:=node_rg src o t ok.1
   obtain⟨i1,i2⟩:=kids_HA src k (o+(srcT t).length) _ _ ts ok.2 (a.ext (x:=(nodeB src o t).1.s) (x':=(nodeB src o t).1.s) (y:=(nodeB src o t).1.e) (y':=(nodeB src o t).1.e) (by omega) (by omega))
   exact⟨i1,by rw[i2]⟩
theorem kids_ns (src:Bytes)(k:Int):∀(o:Nat)(h h':Hd)(ts:List Tree),(kidsB src k o h ts).ns=(kidsB src k o h' ts).ns
 | o,h,h',[]=>by rw[kidsB_nil,kidsB_nil]
 | o,h,h',t::ts=>by
  by_cases c:100≤t.kind
  ·rw[kidsB_leaf _ _ _ _ _ _ c,kidsB_leaf _ _ _ _ _ _ c]
   exact kids_ns src k _ _ _ ts
  ·rw[kidsB_node _ _ _ _ _ _ c,kidsB_node _ _ _ _ _ _ c]
   simp only
   rw[kids_ns src k _ _ (h'.ext (nodeB src o t).1.s (nodeB src o t).1.e) ts]
theorem pre_node (src:Bytes)(o:Nat){A:List Tok}(hA:∀t∈A,triv t=true)(c0:List Tree)(ok:okL c0=true):sd (nodeB src o (.mk 8 [] (A.map leaf++c0))).1=sd (nodeB src (o+(srcL (A.map leaf)).length) (.mk 8 [] c0)).1:=by
 have tr:okL (A.map leaf)=true:=okL_leaf A fun t ht=>by
  have:=hA t ht
  have:t.1=101∨t.1=102:=by simpa[triv] using this
  omega
 have f:∀(h:Hd) (ns:List Nd) (ds:List Dg),sd (finN src ((8:Nat):Int) h ns ds).1=.mk 8 h.v h.x (sdL ns):=fun h ns ds=>by
  unfold finN;rw[if_neg (by decide),if_neg (by decide),sd];rfl
 rw[nodeB_mk,nodeB_mk,f,f,kidsB_app _ _ _ _ _ _ tr,kidsB_triv _ _ _ _ _ hA]
 obtain⟨i1,i2⟩:=kids_HA src ((8:Nat):Int) (o+(srcL (A.map leaf)).length) (h0 o) (h0 ((o+(srcL (A.map leaf)).length:Nat):Int)) c0 ok ⟨rfl,rfl,Iff.rfl,Iff.rfl⟩
 simp only[List.nil_append]
 rw[i1.1,i1.2.1,i2]
theorem slice_app (p s r:Bytes)(a b:Int)(h1:0≤a)(h2:a≤b)(h3:b≤s.length):slice (p++(s++r)) (a+p.length) (b+p.length)=slice s a b:=by
 unfold slice
 obtain⟨x,rfl⟩:=Int.eq_ofNat_of_zero_le h1
 obtain⟨y,rfl⟩:=Int.eq_ofNat_of_zero_le (Int.le_trans h1 h2)
 have e1:((x:Int)+p.length).toNat=p.length+x:=by omega
 have e2:((y:Int)+p.length).toNat=p.length+y:=by omega
 have e3:((x:Int)).toNat=x:=by omega
 have e4:((y:Int)).toNat=y:=by omega
 rw[e1,e2,e3,e4,←List.drop_drop,List.drop_left,List.drop_append_of_le_length (by omega),List.take_append_of_le_length (by rw[List.length_drop];omega)]
 congr 1;omega
theorem agr_app (p s r:Bytes):Agr s (p++(s++r)) 0 p.length s.length:=fun a b h1 h2 h3=>slice_app p s r a b (by omega) h2 (by omega)
theorem items_facts {ts:List Tok}{es:List Tree}{t':List Tok}(h:Items ts es t'):(∀t∈ts,100≤t.1∧t.1≠100)→okL es=true∧par60L es=true∧srcL es++srcK t'=srcK ts∧∀t∈t',triv t=true:=by
 induction h with
 | done ts h=>exact fun k=>⟨rfl,by rw[par60L],by rw[srcL];rfl,(end_drop (fun t ht=>(k t ht).2) h).1⟩
 | @step ts t1 t' x es b h hi hr ih =>
  intro k
  obtain⟨i1,i2,i3,i4⟩:=ih (fun t ht=>by
   obtain⟨q,e⟩:=runs_drop hi
   rw[e]at ht
   exact k t (List.mem_of_mem_drop ht))
  have a1:=runs_ok hi (fun t ht=>(k t ht).1) rfl
  have a2:=runs_par defs_s60 hi s_item (fun t ht=>(k t ht).1) (by rw[par60L])
  have a3:=runs_src hi
  rw[okL_one]at a1
  rw[par60L_one]at a2
  rw[srcL_one,srcL,List.nil_append]at a3
  exact⟨by rw[okL_cons,a1,i1];rfl,by rw[par60L,a2,i2];rfl,by rw[srcL,List.append_assoc,i3,a3],i4⟩
theorem resync {a b:Bytes}{xs S S2 tb:List Tok}(hS:∀t∈S,triv t=true)(hS2:∀t∈S2,triv t=true){w:List Tok}(hb:sg tb=tC::tK::tS::w)(l:Lp (sg (xs++S)))
  (ka:∀t∈xs++S,100≤t.1∧t.1≠100)(kb:∀t∈tb,100≤t.1∧t.1≠100)(sa:srcK (xs++S)=a)(sb:srcK tb=b)(sz:srcK (xs++(S2++tb))=a++(10::b))
  {ea eb:List Tree}{ta' tb':List Tok}(ha:Items (xs++S) ea ta')(hbI:Items tb eb tb') :
  ∃ez tz',Items (xs++(S2++tb)) ez tz'∧sdL (kidsB (a++(10::b)) 1 0 (h0 0) ez).ns=sdL (kidsB a 1 0 (h0 0) ea).ns++sdL (kidsB b 1 0 (h0 0) eb).ns:=by
 have nS:skp S=[]:=skp_all hS
 have hv:sg (S2++tb)=tC::tK::tS::w:=by rw[sg_app,sg_none (skp_all hS2),hb];rfl
 obtain⟨ys,e1,sy,k⟩:=items_stop nS hv ha xs rfl l (fun t ht=>(ka t ht).2)
 obtain⟨a1,a2,a3,a4⟩:=items_facts ha ka
 obtain⟨b1,b2,b3,b4⟩:=items_facts hbI kb
 have yt:∀t∈ys++S2,triv t=true:=fun t ht=>by
  rcases List.mem_append.1 ht with m|m
  ·exact a4 t (by rw[e1];exact List.mem_append_left _ m)
  ·exact hS2 t m
 obtain⟨c0,rest,rfl,kz⟩:=items_pre (skp_all yt) yt hb hbI
 rw[List.append_assoc]at kz
 refine⟨_,_,k _ _ kz,?_⟩
 rw[okL_cons,Bool.and_eq_true]at b1
 rw[par60L,Bool.and_eq_true]at b2
 have okc:=(okT_mk 8 [] c0 b1.1).2.2
 -- the first part
 have f1:=kids_sh a (a++(10::b)) 0 1 0 (h0 0) ea a1 a2 (by
  have:=agr_app [] a (10::b)
  refine this.cut (p:=0) (q:=(srcL ea).length) ?_
  rw[←sa,←a3,List.length_append];omega)
 have e0:(h0 0).sh 0=h0 0:=by unfold h0 Hd.sh shN;simp
 rw[e0]at f1
 rw[kidsB_app _ _ _ _ _ _ a1,sdL_app,f1]
 simp only[sdL_sh]
 congr 1
 -- the second
 have k8:¬100≤(Tree.mk 8 [] (List.map leaf (ys++S2)++c0)).kind:=by show ¬100≤8;decide
 have k8':¬100≤(Tree.mk 8 [] c0).kind:=by show ¬100≤8;decide
 have hl:(srcL ea).length+(srcL (List.map leaf (ys++S2))).length=a.length+1:=by
  have q1:=congrArg List.length a3
  have q2:=congrArg List.length sz
  rw[e1]at q1
  simp only[srcL_leaf,srcK_append,List.length_append,List.length_cons]at q1 q2 ⊢
  have q3:=congrArg List.length sa
  have q4:=congrArg List.length sb
  rw[srcK_append,List.length_append]at q3
  omega
 have f2:=kids_sh b (a++(10::b)) (a.length+1) 1 0 (h0 0) (.mk 8 [] c0::rest) (by rw[okL_cons,b1.1,b1.2];rfl) (by rw[par60L,b2.1,b2.2];rfl) (by
  have:=agr_app (a++[10]) b []
  rw[List.append_nil,List.append_assoc,List.length_append]at this
  refine this.cut (p:=0) (q:=_) ?_
  have q:=congrArg List.length b3
  rw[List.length_append,sb]at q
  omega)
 rw[Nat.zero_add]at f2
 have q2:sdL (kidsB b 1 0 (h0 0) (.mk 8 [] c0::rest)).ns=sdL (kidsB (a++10::b) 1 (a.length+1) ((h0 0).sh (a.length+1)) (.mk 8 [] c0::rest)).ns:=by
  rw[f2];simp only[sdL_sh]
 rw[q2,kidsB_node _ _ _ _ _ _ k8,kidsB_node _ _ _ _ _ _ k8',sdL,sdL,Nat.zero_add,pre_node _ _ yt _ okc,hl]
 congr 2
 have hs:(srcL ea).length+(srcT (Tree.mk 8 [] (List.map leaf (ys++S2)++c0))).length=a.length+1+(srcT (Tree.mk 8 [] c0)).length:=by
  rw[srcT_node,srcT_node,srcL_append,List.length_append];omega
 rw[hs]
 exact kids_ns _ _ _ _ _ _
open LexF Go in
theorem tokz_lines {b:List UInt8}(hb:b.dropWhile isSp=b):∀(n:Nat)(a:List UInt8),a.length≤n→∃xs S S2,tokz a=xs++S∧tokz (a++10::b)=xs++(S2++tokz b)∧(∀t∈S,triv t=true)∧(∀t∈S2,triv t=true):=by
 have s10:isSp 10=true:=nl_facts.2.2.2
 have hsb:scanN isSp b=0:=by
  cases b with
  | nil=>rfl
  | cons c r =>
   rw[List.dropWhile_cons]at hb
   split at hb
   ·exfalso
    have:=congrArg List.length hb
    have l:=(List.dropWhile_sublist (p:=isSp) (l:=r)).length_le
    simp at this;omega
   ·rename_i hc;simp[scanN,List.takeWhile_cons,hc]
 -- spaces,then the line feed,then b
 have sp:∀a:List UInt8,(∀c∈a,isSp c=true)→∃S2:List Tok,tokz (a++10::b)=S2++tokz b∧∀t∈S2,triv t=true:=by
  intro a ha
  have h1:scanN isSp (a++10::b)=a.length+1:=by
   have:=scan_app_all (p:=isSp) b (a++[10]) (fun c hc=>by
    rcases List.mem_append.1 hc with m|m
    ·exact ha c m
    ·cases List.mem_singleton.1 m;exact s10)
   rw[List.append_assoc,List.length_append,hsb]at this
   exact this
  have hne:a++10::b≠[]:=by simp
  have hf:first (a++10::b)=(a.length+1,101):=by
   cases a with
   | nil=>rw[List.nil_append]at h1 ⊢;rw[first,if_pos s10,h1]
   | cons c r=>rw[List.cons_append]at h1 ⊢;rw[first,if_pos (ha c (List.mem_cons_self ..)),h1]
  refine⟨[(101,(a++10::b).take (a.length+1))],?_,fun t ht=>by cases List.mem_singleton.1 ht;rfl⟩
  rw[tokz_cons hne,hf]
  have:(a++10::b).drop (a.length+1)=b:=by
   rw[←List.drop_drop,List.drop_left];rfl
  simp only[this];rfl
 intro n
 induction n with
 | zero =>
  intro a ha
  have:a=[]:=List.length_eq_zero_iff.1 (by omega)
  subst this
  obtain⟨S2,e,k⟩:=sp [] nofun
  exact⟨[],[],S2,rfl,e,nofun,k⟩
 | succ n ih =>
  intro a ha
  cases a with
  | nil =>
   obtain⟨S2,e,k⟩:=sp [] nofun
   exact⟨[],[],S2,rfl,e,nofun,k⟩
  | cons c r =>
   have hbd:=first_bounds (c::r) (List.cons_ne_nil _ _)
   have step:first ((c::r)++10::b)=first (c::r)→∃xs S S2,tokz (c::r)=xs++S∧tokz ((c::r)++10::b)=xs++(S2++tokz b)∧(∀t∈S,triv t=true)∧(∀t∈S2,triv t=true):=by
    intro hf
    obtain⟨xs,S,S2,e1,e2,k1,k2⟩:=ih ((c::r).drop (first (c::r)).1) (by rw[List.length_drop];simp at ha ⊢;omega)
    refine⟨((first (c::r)).2,(c::r).take (first (c::r)).1)::xs,S,S2,?_,?_,k1,k2⟩
    ·rw[tokz_cons (List.cons_ne_nil _ _),e1];rfl
    ·rw[tokz_cons (by simp),hf,List.take_append_of_le_length hbd.2,List.drop_append_of_le_length hbd.2,e2];rfl
   by_cases hc:isSp c=true
   ·have hf1:first (c::r)=(scanN isSp (c::r),101):=by rw[first,if_pos hc]
    have al:=take_scan_all isSp (c::r)
    have hle:=scanN_le isSp (c::r)
    by_cases hm:scanN isSp (c::r)=(c::r).length
    ·rw[hm,List.take_length]at al
     obtain⟨S2,e,k⟩:=sp (c::r) al
     refine⟨[],[(101,c::r)],S2,?_,e,fun t ht=>by cases List.mem_singleton.1 ht;rfl,k⟩
     rw[tokz_cons (List.cons_ne_nil _ _),hf1]
     simp only[hm,List.take_length,List.drop_length,tokz_nil];rfl
    ·refine step ?_
     have:scanN isSp ((c::r)++10::b)=scanN isSp (c::r):=by
      have e:=scan_look (p:=isSp) (10::b) (c::r) (c::r).length (by omega) (Nat.le_refl _)
      rw[List.take_length]at e;exact e
     rw[hf1]
     rw[List.cons_append]at this ⊢
     rw[first,if_pos hc,this]
   ·exact step (first_nl c r b hc)
end Pm
end

section
namespace ParF
open Go Go.Abs Go.Proofs Pm
theorem items_det {ts:List Tok}{es:List Tree}{t':List Tok}(h:Items ts es t'):∀{es2:List Tree}{t2:List Tok},Items ts es2 t2→es=es2∧t'=t2:=by
 induction h with
 | done ts hd =>
  intro es2 t2 h2
  cases h2 with
  | done=>exact⟨rfl,rfl⟩
  | step h=>exact absurd hd h
 | step h hi hr ih =>
  intro es2 t2 h2
  cases h2 with
  | done _ hd=>exact absurd hd h
  | step h3 hi3 hr3 =>
   obtain⟨-,rfl,e⟩:=runs_det hi hi3
   obtain⟨rfl,rfl⟩:=ih hr3
   cases e
   exact⟨rfl,rfl⟩
def lastS:Bytes→List Tok→Bytes
 | acc,[]=>acc
 | acc,t::ts=>lastS (if triv t=true then acc else t.2) ts
theorem lastS_eq:∀(ts:List Tok)(acc:Bytes),lastS acc ts=match (sg ts).getLast? with|some t=>t.2|none=>acc
 | [],acc=>rfl
 | t::ts,acc=>by
  rw[lastS,lastS_eq ts,sg_cons]
  by_cases c:triv t=true
  ·rw[if_pos c,if_pos c]
  ·rw[if_neg c,if_neg c,List.getLast?_cons]
   cases(sg ts).getLast?<;>rfl
theorem lp_last {ts:List Tok}(h:lastS [] ts≠wPub):Lp (sg ts):=by
 intro t ht
 rw[lastS_eq,ht]at h
 have h:t.2≠wPub:=h
 unfold atT
 simp[List.contains_iff_mem,h]
def cst:Bytes:=[99,111,110,115,116,32,107,58,32,105,110,116,32,61,32,49,59,10]
theorem tok_step {l:List UInt8}{n k:Nat}{x r:List UInt8}(hl:l=x++r)(hx:x≠[])(hf:LexF.first l=(n,k))(hn:n=x.length):LexF.tokz l=(k,x)::LexF.tokz r:=by
 have hne:l≠[]:=by rw[hl];simp[hx]
 rw[LexF.tokz_cons hne,hf,hn,hl]
 simp
theorem cst_toks (b:Bytes):∃w,sg (LexF.tokz (cst++b))=tC::tK::tS::w:=by
 have h1:LexF.first (cst++b)=(5,104):=by rfl
 have h2:LexF.first ([32,107,58,32,105,110,116,32,61,32,49,59,10]++b)=(1,101):=by rfl
 have h3:LexF.first ([107,58,32,105,110,116,32,61,32,49,59,10]++b)=(1,103):=by rfl
 have h4:LexF.first ([58,32,105,110,116,32,61,32,49,59,10]++b)=(1,107):=by rfl
 have g1:LexF.tokz (cst++b)=_:=tok_step (x:=wConst) (r:=[32,107,58,32,105,110,116,32,61,32,49,59,10]++b) rfl (by decide) h1 rfl
 have g2:LexF.tokz ([32,107,58,32,105,110,116,32,61,32,49,59,10]++b)=_:=tok_step (x:=[32]) (r:=[107,58,32,105,110,116,32,61,32,49,59,10]++b) rfl (by decide) h2 rfl
 have g3:LexF.tokz ([107,58,32,105,110,116,32,61,32,49,59,10]++b)=_:=tok_step (x:=[107]) (r:=[58,32,105,110,116,32,61,32,49,59,10]++b) rfl (by decide) h3 rfl
 have g4:LexF.tokz ([58,32,105,110,116,32,61,32,49,59,10]++b)=_:=tok_step (x:=[58]) (r:=[32,105,110,116,32,61,32,49,59,10]++b) rfl (by decide) h4 rfl
 refine⟨sg (LexF.tokz ([32,105,110,116,32,61,32,49,59,10]++b)),?_⟩
 rw[g1,sg_cons,if_neg (by simp[triv]),g2,sg_cons,if_pos (by simp[triv]),g3,sg_cons,if_neg (by simp[triv]),g4,sg_cons,if_neg (by simp[triv])]
theorem isFile_items {l:Bytes}{T:Tree}(h:IsFile (LexF.tokz l) T):∃es t',Items (LexF.tokz l) es t'∧(∀s,(astB s T).1.cs=(kidsB s 1 0 (h0 0) es).ns):=by
 obtain⟨t',es,h1,h2,rfl,h4,h5⟩:=h
 obtain⟨es',e1,e2⟩:=items_of h1 rfl rfl
 rw[List.nil_append]at e1
 subst e1
 have hk:=tokz_kind l.length l (Nat.le_refl _)
 obtain⟨f1,f2,f3,f4⟩:=items_facts e2 (fun t ht=>by have:=hk t ht;omega)
 exact⟨es,t',e2,fun s=>by rw[astB_file s f1 f4];rfl⟩
theorem resync_law {a b:Bytes}(hp:lastS [] (LexF.tokz a)≠wPub){X Y Z:Tree}(FX:IsFile (LexF.tokz a) X)(FY:IsFile (LexF.tokz (cst++b)) Y)(FZ:IsFile (LexF.tokz (a++10::(cst++b))) Z) :
  sdL (astB (a++10::(cst++b)) Z).1.cs=sdL (astB a X).1.cs++sdL (astB (cst++b) Y).1.cs:=by
 obtain⟨w,hw⟩:=cst_toks b
 have hd:(cst++b).dropWhile LexF.isSp=cst++b:=rfl
 generalize hB:cst++b=B at *
 obtain⟨xs,S,S2,e1,e2,t1,t2⟩:=tokz_lines hd a.length a (Nat.le_refl _)
 obtain⟨ea,ta,ia,na⟩:=isFile_items FX
 obtain⟨eb,tb,ib,nb⟩:=isFile_items FY
 obtain⟨ez,tz,iz,nz⟩:=isFile_items FZ
 have ka:∀t∈xs++S,100≤t.1∧t.1≠100:=fun t ht=>by
  have:=tokz_kind a.length a (Nat.le_refl _) t (by rw[e1];exact ht);omega
 have kb:∀t∈LexF.tokz B,100≤t.1∧t.1≠100:=fun t ht=>by
  have:=tokz_kind B.length B (Nat.le_refl _) t ht;omega
 have sa:srcK (xs++S)=a:=by rw[←e1,srcK_eq];exact LexF.tokz_src _ a (Nat.le_refl _)
 have sb:srcK (LexF.tokz B)=B:=by rw[srcK_eq];exact LexF.tokz_src _ B (Nat.le_refl _)
 have sz:srcK (xs++(S2++LexF.tokz B))=a++(10::B):=by rw[←e2,srcK_eq];exact LexF.tokz_src _ _ (Nat.le_refl _)
 obtain⟨ez',tz',i2,r⟩:=resync t1 t2 hw (by rw[←e1];exact lp_last hp) ka kb sa sb sz (by rw[←e1];exact ia) ib
 rw[e2]at iz
 obtain⟨rfl,rfl⟩:=items_det iz i2
 rw[nz,na,nb]
 exact r
end ParF
end
