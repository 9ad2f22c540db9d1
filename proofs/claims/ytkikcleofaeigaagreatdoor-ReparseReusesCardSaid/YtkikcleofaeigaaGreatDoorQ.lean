/- ParK, ParR, LexL, RelT, FstT -/
import Derived.Test.YtkikcleofaeigaaGreatDoorD
import Derived.Test.YtkikcleofaeigaaGreatDoorL
set_option linter.all false

section
namespace Pm
def Two (c:Cnd):Prop:=∀t u v v',c t u v=c t u v'
def Eats (g:G):Prop:=∀ts cs r ts' cs',Runs g ts cs r ts' cs'→ts'.length≤(la ts).length
def Good:G→Prop
 | .seq a b=>Good a∧Good b
 | .node _ g=>Good g
 | .wrap _ g=>Good g
 | .ite c a b=>(Two c∨(Eats a∧Eats b))∧Good a∧Good b
 | .bra g a b=>Good g∧Good a∧Good b
 | .prog g a b=>Good g∧Good a∧Good b
 | .stm g b=>Good g∧Good b
 | .whil c g=>Two c∧Good g
 | _=>True
structure Agree (t u:List Tok):Prop where
 one:pk t=pk u
 two:pk (la t)=pk (la u)
 nil:t=[]→u=[]
 eof:skp t=[]→skp u=[]
theorem skp_app (xs t:List Tok):skp (xs++t)=if skp xs=[] then skp t else skp xs++t:=by
 induction xs with
 | nil=>rfl
 | cons x xs ih =>
  unfold skp at *
  rw[List.cons_append,List.dropWhile_cons,List.dropWhile_cons]
  split
  ·exact ih
  ·rw[if_neg (by simp)];rfl
theorem pk_app (xs t:List Tok):pk (xs++t)=if skp xs=[] then pk t else pk xs:=by
 unfold pk
 rw[skp_app]
 split
 ·rfl
 ·rename_i h
  cases hs:skp xs with
  | nil=>exact absurd hs h
  | cons a l=>rfl
theorem la_app (xs t:List Tok):la (xs++t)=if skp xs=[] then la t else la xs++t:=by
 unfold la
 rw[skp_app]
 split
 ·rfl
 ·rename_i h
  cases hs:skp xs with
  | nil=>exact absurd hs h
  | cons a l=>rfl
theorem Agree.pk {t u:List Tok}(h:Agree t u)(xs:List Tok):pk (xs++t)=pk (xs++u):=by
 rw[pk_app,pk_app,h.one]
theorem Agree.pk2 {t u:List Tok}(h:Agree t u)(xs:List Tok):Pm.pk (la (xs++t))=Pm.pk (la (xs++u)):=by
 rw[la_app,la_app]
 split
 ·exact h.two
 ·exact h.pk _
theorem Agree.pk3 {t u:List Tok}(h:Agree t u)(xs:List Tok)(hx:skp xs≠[]):Pm.pk (la (la (xs++t)))=Pm.pk (la (la (xs++u))):=by
 rw[la_app,la_app,if_neg hx,if_neg hx]
 exact h.pk2 _
theorem Agree.ev {t u:List Tok}(h:Agree t u){c:Cnd}(hc:Two c)(xs:List Tok):ev c (xs++t)=ev c (xs++u):=by
 unfold Pm.ev
 rw[h.pk,h.pk2];exact hc _ _ _ _
theorem Agree.ev3 {t u:List Tok}(h:Agree t u)(c:Cnd)(xs:List Tok)(hx:skp xs≠[]∨skp t=[]):Pm.ev c (xs++t)=Pm.ev c (xs++u):=by
 unfold Pm.ev
 rw[h.pk,h.pk2]
 by_cases h0:skp xs=[]
 ·have ht:skp t=[]:=by rcases hx with hx|hx;exact absurd h0 hx;exact hx
  have e:∀v,skp v=[]→la (la (xs++v))=[]:=by
   intro v hv
   rw[la_app,if_pos h0]
   have:la v=[]:=by unfold la;rw[hv];rfl
   rw[this];rfl
  rw[e t ht,e u (h.eof ht)]
 ·rw[h.pk3 xs h0]
theorem eats_in {xs t:List Tok}(h:t.length≤(la (xs++t)).length):skp xs≠[]∨skp t=[]:=by
 by_cases hx:skp xs=[]
 ·right
  rw[la_app,if_pos hx]at h
  unfold la at h
  cases hs:skp t with
  | nil=>rfl
  | cons a l =>
   exfalso
   have:(skp t).length≤t.length:=by unfold skp;exact(List.dropWhile_sublist _).length_le
   rw[hs]at this h
   simp at this h
   omega
 ·exact .inl hx
theorem runs_local (hd:∀f,Good (defs f)){g:G}{ts:List Tok}{cs:List Tree}{r:Bool}{ts':List Tok}{cs':List Tree}(h:Runs g ts cs r ts' cs') :
  Good g→∀(xs t u:List Tok),ts=xs++t→t.length≤ts'.length→Agree t u→∃ys,ts'=ys++t∧Runs g (xs++u) cs r (ys++u) cs':=by
 induction h with
 | ret b ts cs=>rintro-xs t u rfl hl A;exact⟨xs,rfl,.ret _ _ _⟩
 | bump ts cs =>
  rintro-xs t u rfl hl A
  by_cases hx:skp xs=[]
  ·have hs:skp t=[]:=(eats_in hl).resolve_left (fun h=>h hx)
   have e:la (xs++t)=[]:=by rw[la_app,if_pos hx];unfold la;rw[hs];rfl
   rw[e]at hl
   have ht:t=[]:=List.length_eq_zero_iff.1 (Nat.le_zero.1 hl)
   have hu:=A.nil ht
   subst ht;subst hu
   rw[e]
   refine⟨[],rfl,?_⟩
   have:=Runs.bump (xs++[]) cs
   rw[e]at this
   exact this
  ·refine⟨la xs,by rw[la_app,if_neg hx],?_⟩
   have:=Runs.bump (xs++u) cs
   rw[la_app,if_neg hx]at this
   have e:∀v:List Tok,((xs++v).takeWhile triv).map leaf++((skp (xs++v)).take 1).map leaf=(xs.takeWhile triv).map leaf++((skp xs).take 1).map leaf:=by
    intro v
    rw[skp_app,if_neg hx,←List.map_append,←List.map_append]
    congr 1
    have e1:(xs++v).takeWhile triv=xs.takeWhile triv:=by
     have:∀xs:List Tok,skp xs≠[]→(xs++v).takeWhile triv=xs.takeWhile triv:=by
      intro xs
      induction xs with
      | nil=>intro h;exact absurd rfl h
      | cons x xs ih =>
       intro h
       rw[List.cons_append,List.takeWhile_cons,List.takeWhile_cons]
       split
       ·rename_i hx
        rw[ih (by unfold skp at *;rw[List.dropWhile_cons,if_pos hx]at h;exact h)]
       ·rfl
     exact this xs hx
    rw[e1]
    cases hs:skp xs with
    | nil=>exact absurd hs hx
    | cons a l=>rfl
   rw[e]at this
   rw[e]
   exact this
 | put k ts cs=>rintro-xs t u rfl hl A;exact⟨xs,rfl,.put _ _ _⟩
 | insN ts cs x=>rintro-xs t u rfl hl A;exact⟨xs,rfl,.insN _ _ _⟩
 | seq h1 h2 i1 i2 =>
  rintro⟨g1,g2⟩ xs t u rfl hl A
  obtain⟨ys,rfl,k1⟩:=i1 g1 xs t u rfl (Nat.le_trans hl (runs_le h2)) A
  obtain⟨zs,rfl,k2⟩:=i2 g2 ys t u rfl hl A
  exact⟨zs,rfl,.seq k1 k2⟩
 | node cs hk h i =>
  intro g1 xs t u e hl A
  obtain⟨ys,rfl,k1⟩:=i g1 xs t u e hl A
  exact⟨ys,rfl,.node cs hk k1⟩
 | wrap cs hk h i =>
  intro g1 xs t u e hl A
  obtain⟨ys,rfl,k1⟩:=i g1 xs t u e hl A
  exact⟨ys,rfl,.wrap cs hk k1⟩
 | ite1 hc h i =>
  rintro⟨g0,g1,g2⟩ xs t u rfl hl A
  obtain⟨ys,rfl,k1⟩:=i g1 xs t u rfl hl A
  refine⟨ys,rfl,.ite1 ?_ k1⟩
  rcases g0 with g0|⟨g0,_⟩
  ·rw[←A.ev g0];exact hc
  ·have e1:=g0 _ _ _ _ _ h
   rw[←A.ev3 _ xs (eats_in (Nat.le_trans hl e1))];exact hc
 | ite2 hc h i =>
  rintro⟨g0,g1,g2⟩ xs t u rfl hl A
  obtain⟨ys,rfl,k1⟩:=i g2 xs t u rfl hl A
  refine⟨ys,rfl,.ite2 ?_ k1⟩
  rcases g0 with g0|⟨_,g0⟩
  ·rw[←A.ev g0];exact hc
  ·have e1:=g0 _ _ _ _ _ h
   rw[←A.ev3 _ xs (eats_in (Nat.le_trans hl e1))];exact hc
 | bra1 h1 h2 i1 i2 =>
  rintro⟨g0,g1,g2⟩ xs t u rfl hl A
  obtain⟨ys,rfl,k1⟩:=i1 g0 xs t u rfl (Nat.le_trans hl (runs_le h2)) A
  obtain⟨zs,rfl,k2⟩:=i2 g1 ys t u rfl hl A
  exact⟨zs,rfl,.bra1 k1 k2⟩
 | bra2 h1 h2 i1 i2 =>
  rintro⟨g0,g1,g2⟩ xs t u rfl hl A
  obtain⟨ys,rfl,k1⟩:=i1 g0 xs t u rfl (Nat.le_trans hl (runs_le h2)) A
  obtain⟨zs,rfl,k2⟩:=i2 g2 ys t u rfl hl A
  exact⟨zs,rfl,.bra2 k1 k2⟩
 | prog1 h1 he h2 i1 i2 =>
  rintro⟨g0,g1,g2⟩ xs t u rfl hl A
  obtain⟨ys,rfl,k1⟩:=i1 g0 xs t u rfl (Nat.le_trans hl (runs_le h2)) A
  obtain⟨zs,rfl,k2⟩:=i2 g1 ys t u rfl hl A
  exact⟨zs,rfl,.prog1 k1 (by simp only[List.length_append]at *;omega) k2⟩
 | prog2 h1 he h2 i1 i2 =>
  rintro⟨g0,g1,g2⟩ xs t u rfl hl A
  obtain⟨ys,rfl,k1⟩:=i1 g0 xs t u rfl (Nat.le_trans hl (runs_le h2)) A
  obtain⟨zs,rfl,k2⟩:=i2 g2 ys t u rfl hl A
  exact⟨zs,rfl,.prog2 k1 (by simp only[List.length_append]at *;omega) k2⟩
 | stm1 h1 he ht h2 i1 i2 =>
  rintro⟨g0,g1⟩ xs t u rfl hl A
  obtain⟨ys,rfl,k1⟩:=i1 g0 xs t u rfl (Nat.le_trans hl (runs_le h2)) A
  obtain⟨zs,rfl,k2⟩:=i2 ⟨trivial,trivial⟩ ys t u rfl hl A
  exact⟨zs,rfl,.stm1 k1 (by simp only[List.length_append]at *;omega) ht k2⟩
 | stm2 h1 he h2 i1 i2 =>
  rintro⟨g0,g1⟩ xs t u rfl hl A
  obtain⟨ys,rfl,k1⟩:=i1 g0 xs t u rfl (Nat.le_trans hl (runs_le h2)) A
  obtain⟨zs,rfl,k2⟩:=i2 g1 ys t u rfl hl A
  exact⟨zs,rfl,.stm2 k1 (by simp only[List.length_append]at *;omega) k2⟩
 | whil0 hc =>
  rintro⟨g0,g1⟩ xs t u rfl hl A
  exact⟨xs,rfl,.whil0 (by rw[←A.ev g0];exact hc)⟩
 | whil1 hc h i =>
  rintro⟨g0,g1⟩ xs t u rfl hl A
  obtain⟨ys,rfl,k1⟩:=i g1 xs t u rfl hl A
  exact⟨ys,rfl,.whil1 (by rw[←A.ev g0];exact hc) k1⟩
 | whil2 hc h h2 i1 i2 =>
  rintro⟨g0,g1⟩ xs t u rfl hl A
  obtain⟨ys,rfl,k1⟩:=i1 g1 xs t u rfl (Nat.le_trans hl (runs_le h2)) A
  obtain⟨zs,rfl,k2⟩:=i2 ⟨g0,g1⟩ ys t u rfl hl A
  exact⟨zs,rfl,.whil2 (by rw[←A.ev g0];exact hc) k1 k2⟩
 | call h i =>
  intro _ xs t u e hl A
  obtain⟨ys,rfl,k1⟩:=i (hd _) xs t u e hl A
  exact⟨ys,rfl,.call k1⟩
theorem eats_bump {g:G}{ts:List Tok}{cs:List Tree}{r:Bool}{ts':List Tok}{cs':List Tree}(h:Runs (.seq .bump g) ts cs r ts' cs'):ts'.length≤(la ts).length:=by
 cases h with
 | seq h1 h2=>cases h1;exact runs_le h2
theorem good_two {c:Cnd}{a b:G}(h:Two c)(ha:Good a)(hb:Good b):Good (.ite c a b):=⟨.inl h,ha,hb⟩
theorem two_at (ws:List Bytes):Two (rAt ws):=fun _ _ _ _=>rfl
theorem two_id:Two rId:=fun _ _ _ _=>rfl
theorem two_kind (k:Nat):Two (rKind k):=fun _ _ _ _=>rfl
theorem two_more (cl:Bytes):Two (gMore cl):=fun _ _ _ _=>rfl
theorem two_fun (f:Tok→Tok→Bool):Two (fun t u _=>f t u):=fun _ _ _ _=>rfl
theorem good_expect (w:Bytes):Good (gExpect w):=good_two (two_at _) trivial trivial
theorem good_ident:Good gIdent:=good_two two_id trivial trivial
theorem good_opt (w:Bytes){g:G}(h:Good g):Good (gOpt w g):=good_two (two_at _) ⟨trivial,h⟩ trivial
theorem good_if (ws:List Bytes){g:G}(h:Good g):Good (gIf ws g):=good_two (two_at _) ⟨trivial,h⟩ trivial
theorem good_list (cl:Bytes){el:G}(h:Good el):Good (gList cl el):=⟨⟨two_more _,h,trivial,good_two (two_at _) trivial (good_expect _)⟩,good_expect _⟩
theorem good_seg (ty:Bool):Good (gSeg ty):=⟨good_ident,by cases ty<;>first|trivial|exact good_if _ (good_list _ trivial)⟩
theorem good_path (ty:Bool):Good (gPath ty):=⟨good_seg ty,two_at _,trivial,good_seg ty⟩
theorem good_type:Good gType:=good_two (two_at _) ⟨trivial,good_if _ trivial,trivial⟩ (good_two (two_at _) ⟨trivial,good_expect _,good_list _ trivial,good_opt _ trivial⟩ (good_two two_id (good_path _) trivial))
theorem good_typeParam:Good gTypeParam:=good_two two_id ⟨trivial,good_if _ ⟨good_path _,two_at _,trivial,good_path _⟩⟩ trivial
theorem good_typeParams:Good gTypeParams:=good_if _ (good_list _ good_typeParam)
theorem good_param:Good gParam:=good_two two_id ⟨trivial,good_opt _ trivial⟩ trivial
theorem good_params (cl:Bytes):Good (gParams cl):=good_list _ good_param
theorem good_function (nb:Bool):Good (gFunction nb):=⟨good_ident,good_typeParams,good_expect _,good_params _,good_opt _ trivial,by cases nb<;>first|trivial|exact good_two (two_at _) ⟨trivial,trivial⟩ trivial⟩
theorem good_data (st:Bool):Good (gData st):=⟨good_ident,good_typeParams,good_expect _,good_list _ (good_two two_id (by cases st<;>first|exact(⟨trivial,good_expect _,trivial⟩:Good gField)|exact(⟨trivial,good_if _ (good_list _ trivial)⟩:Good gVariant)) trivial)⟩
theorem good_assoc:Good gAssoc:=⟨trivial,good_ident,good_opt _ trivial,good_expect _⟩
theorem good_members:Good gMembers:=⟨good_expect _,⟨two_at _,good_two (two_at _) ⟨trivial,good_function _,trivial⟩ good_assoc⟩,good_expect _⟩
theorem good_impl:Good gImpl:=⟨good_typeParams,trivial,good_two (two_at _) ⟨trivial,trivial⟩ trivial,good_members⟩
theorem good_use:Good gUse:=⟨⟨⟨good_ident,two_at _,good_two (two_fun _) trivial ⟨trivial,good_ident,trivial⟩⟩,⟨trivial,trivial⟩,good_if _ good_ident⟩,good_expect _⟩
theorem good_const:Good gConst:=⟨good_ident,good_expect _,trivial,good_expect _,trivial,good_expect _⟩
theorem good_macro:Good gMacro:=⟨good_ident,good_expect _,good_params _,good_expect _,trivial,good_expect _⟩
theorem good_body (k:Nat):Good (gBody k):=by
 unfold gBody
 split
 ·exact good_use
 ·exact good_function _
 ·exact good_data _
 ·exact good_data _
 ·exact⟨good_ident,good_members⟩
 ·exact good_impl
 ·exact good_const
 ·exact good_macro
theorem good_itemAs (k:Nat):Good (gItemAs k):=⟨good_if _ trivial,trivial,good_body k⟩
theorem good_skip:Good gSkip:=⟨trivial,two_fun _,trivial⟩
theorem two_item (k:Nat):Two (itemIs k):=fun _ _ _ _=>rfl
theorem good_item:Good gItem:=good_two (two_item _) (good_itemAs _) (good_two (two_item _) (good_itemAs _) (good_two (two_item _) (good_itemAs _) (good_two (two_item _) (good_itemAs _) (good_two (two_item _) (good_itemAs _) (good_two (two_item _) (good_itemAs _) (good_two (two_item _) (good_itemAs _) (good_two (two_item _) (good_itemAs _) good_skip)))))))
theorem good_block:Good gBlock:=⟨good_expect _,⟨⟨two_fun _,trivial⟩,trivial,trivial⟩,good_expect _⟩
theorem good_stm (bl:Bool){g:G}(h:Good g):Good (gStm bl g):=⟨h,good_two (two_at _) trivial (good_two (two_at _) ⟨⟨trivial,trivial,good_expect _⟩,trivial⟩ ⟨good_two (two_at _) trivial (by cases bl<;>trivial),trivial⟩)⟩
theorem good_statement:Good gStatement:=good_two (two_at _) ⟨⟨trivial,trivial,good_opt _ trivial,good_expect _,trivial,good_expect _⟩,trivial⟩ (good_two (two_at _) ⟨⟨trivial,trivial,trivial⟩,trivial⟩ (good_two (two_at _) ⟨⟨trivial,good_two (two_at _) trivial trivial,good_expect _⟩,trivial⟩ (good_two (two_at _) (good_stm _ trivial) (good_stm _ trivial))))
theorem good_binary (l:Nat):Good (gBinary l):=⟨trivial,⟨two_at _,⟨trivial,trivial⟩,trivial⟩,trivial⟩
theorem good_args:Good gArgs:=⟨trivial,good_list _ trivial⟩
theorem eats_wrap {k:Nat}{g:G}:Eats (.wrap k (.seq .bump g)):=by
 intro ts cs r ts' cs' h
 cases h with
 | wrap _ _ h=>exact eats_bump h
theorem good_postfix:Good gPostfix:=⟨two_at _,good_two (two_at _) good_args ⟨.inr ⟨eats_wrap,eats_wrap⟩,⟨trivial,trivial,good_args⟩,⟨trivial,good_ident⟩⟩⟩
theorem good_unary:Good gUnary:=good_two (two_at _) ⟨trivial,trivial⟩ (good_two (two_at _) ⟨trivial,good_if _ trivial,trivial⟩ ⟨trivial,good_postfix⟩)
theorem good_arm:Good gArm:=good_two (two_fun _) ⟨trivial,good_expect _,trivial⟩ trivial
theorem good_match:Good gMatch:=⟨trivial,trivial,good_expect _,good_list _ good_arm⟩
theorem good_init:Good gInit:=good_two two_id ⟨trivial,good_expect _,trivial⟩ trivial
theorem good_lit:Good gLit:=⟨trivial,good_path _,good_expect _,good_list _ good_init⟩
theorem good_lambda:Good gLambda:=⟨good_two (two_at _) ⟨trivial,trivial⟩ ⟨trivial,good_params _⟩,trivial⟩
theorem good_paren:Good gParen:=⟨trivial,trivial,good_expect _⟩
theorem good_primary:Good gPrimary:=good_two (two_kind _) trivial (good_two (two_kind _) trivial (good_two (two_at _) trivial (good_two two_id ⟨good_path _,good_two (two_fun _) ⟨trivial,good_args⟩ trivial⟩ (good_two (two_at _) good_paren (good_two (two_at _) trivial (good_two (two_at _) trivial (good_two (two_at _) good_match (good_two (two_at _) good_lit (good_two (two_at _) good_lambda trivial)))))))))
theorem good_ifExpr:Good gIfExpr:=⟨trivial,trivial,trivial,good_opt _ (good_two (two_at _) trivial trivial)⟩
theorem good_pattern:Good gPattern:=good_two (two_at _) ⟨trivial,good_ident⟩ (good_two (two_fun _) trivial (good_two (two_fun _) trivial (good_two two_id ⟨good_path _,good_if _ (good_list _ trivial)⟩ (good_two (two_kind _) trivial (good_two (two_at _) trivial trivial)))))
theorem good_defs (f:Nat):Good (defs f):=by
 unfold defs
 split
 ·exact good_type
 ·exact good_block
 ·exact good_statement
 ·exact good_primary
 ·exact good_pattern
 ·exact good_ifExpr
 ·exact good_binary 0
 ·exact good_binary 1
 ·exact good_binary 2
 ·exact good_binary 3
 ·exact good_binary 4
 ·exact good_unary
theorem item_local {xs t u:List Tok}{cs:List Tree}{r:Bool}{cs':List Tree}(h:Runs gItem (xs++t) cs r t cs')(A:Agree t u):Runs gItem (xs++u) cs r u cs':=by
 obtain⟨ys,e,k⟩:=runs_local good_defs h good_item xs t u rfl (Nat.le_refl _) A
 have:ys=[]:=by
  have:=congrArg List.length e
  rw[List.length_append]at this
  exact List.length_eq_zero_iff.1 (by omega)
 subst this;exact k
end Pm
end

section
namespace Pm
inductive Items:List Tok→List Tree→List Tok→Prop
 | done (ts:List Tok)(h:(pk ts).1=100):Items ts [] ts
 | step {ts t1 t':List Tok}{x:Tree}{es:List Tree}{b:Bool}(h:(pk ts).1≠100)(hi:Runs gItem ts [] b t1 [x])(hr:Items t1 es t'):Items ts (x::es) t'
theorem item_one {ts:List Tok}{cs:List Tree}{b:Bool}{t1:List Tok}{c1:List Tree}(h:(pk ts).1≠100)(hr:Runs gItem ts cs b t1 c1):∃x,c1=cs++[x]∧Runs gItem ts [] false t1 [x]∧t1.length<ts.length:=by
 obtain⟨t2,e2,k1,⟨x,rfl⟩,k2⟩:=item_does h
 have f:=runs_frame k1 cs
 rw[List.append_nil]at f
 obtain⟨-,rfl,rfl⟩:=runs_det hr f
 exact⟨x,rfl,k1,k2.1⟩
theorem items_of {g:G}{ts:List Tok}{cs:List Tree}{r:Bool}{t':List Tok}{cs':List Tree}(h:Runs g ts cs r t' cs'):g=gFile→r=false→∃es,cs'=cs++es∧Items ts es t':=by
 induction h with
 | whil0 hc =>
  intro e _
  cases e
  refine⟨[],(List.append_nil _).symm,.done _ ?_⟩
  simpa[ev] using hc
 | whil1 hc h i=>intro _ e;cases e
 | whil2 hc h h2 i1 i2 =>
  intro e er
  obtain⟨es,e2,k2⟩:=i2 e er
  cases e
  have hs:=sig_c hc (by intro t u v e;simp[e])
  cases h with
  | seq h1 h3 =>
   cases h3
   obtain⟨x,rfl,k1,_⟩:=item_one hs h1
   exact⟨x::es,by rw[e2,List.append_assoc];rfl,.step hs k1 k2⟩
 | _=>intro e;cases e
theorem items_det {ts:List Tok}{es:List Tree}{t':List Tok}(h:Items ts es t'):∀{es2:List Tree}{t2:List Tok},Items ts es2 t2→es=es2∧t'=t2:=by
 induction h with
 | done ts h =>
  intro es2 t2 h2
  cases h2 with
  | done=>exact⟨rfl,rfl⟩
  | step h'=>exact absurd h h'
 | step h hi hr ih =>
  intro es2 t2 h2
  cases h2 with
  | done _ h'=>exact absurd h' h
  | step h' hi' hr' =>
   obtain⟨-,rfl,e⟩:=runs_det hi hi'
   cases e
   obtain⟨rfl,rfl⟩:=ih hr'
   exact⟨rfl,rfl⟩
theorem items_ex (ts:List Tok):∃es t',Items ts es t':=by
 obtain⟨t',es,h1,h2,_⟩:=file_does ts
 obtain⟨es',e,h⟩:=items_of h1 rfl rfl
 exact⟨_,_,h⟩
def Kids (ts:List Tok)(cs:List Tree):Prop:=∃es t',Items ts es t'∧cs=es++t'.map leaf
theorem kids_det {ts:List Tok}{cs cs2:List Tree}(h:Kids ts cs)(h2:Kids ts cs2):cs=cs2:=by
 obtain⟨es,t',h,rfl⟩:=h
 obtain⟨es2,t2,h2,rfl⟩:=h2
 obtain⟨rfl,rfl⟩:=items_det h h2;rfl
theorem kids_ex (ts:List Tok):∃cs,Kids ts cs:=by
 obtain⟨es,t',h⟩:=items_ex ts
 exact⟨_,es,t',h,rfl⟩
theorem kids_end {ts:List Tok}(h:(pk ts).1=100):Kids ts (ts.map leaf):=⟨[],ts,.done ts h,rfl⟩
theorem kids_step {ts t1:List Tok}{x:Tree}{b:Bool}{cs:List Tree}(h:(pk ts).1≠100)(hi:Runs gItem ts [] b t1 [x])(hk:Kids t1 cs):Kids ts (x::cs):=by
 obtain⟨es,t',k,rfl⟩:=hk
 exact⟨x::es,t',.step h hi k,rfl⟩
abbrev bl (ts:List Tok):Nat:=(srcK ts).length
theorem bl_app (a b:List Tok):bl (a++b)=bl a+bl b:=by unfold bl;rw[srcK_append,List.length_append]
theorem bl_nil:bl []=0:=rfl
theorem bl_cons (t:Tok)(ts:List Tok):bl (t::ts)=t.2.length+bl ts:=by unfold bl;rw[srcK,List.length_append]
def Full (ts:List Tok):Prop:=∀t∈ts,t.2≠[]
theorem bl_zero {ts:List Tok}(h:Full ts)(e:bl ts=0):ts=[]:=by
 cases ts with
 | nil=>rfl
 | cons t ts =>
  rw[bl_cons]at e
  have:=h t (List.mem_cons_self ..)
  exact absurd (List.length_eq_zero_iff.1 (by omega)) this
theorem split_eq:∀{V V' w w':List Tok},Full (V++w)→V++w=V'++w'→bl V=bl V'→V=V'∧w=w'
 | [],[],w,w',_,e,_=>⟨rfl,e⟩
 | [],v::V',w,w',hf,e,hb=>by
  have hf':Full (v::V'):=fun t ht=>hf t (by rw[e];exact List.mem_append_left _ ht)
  exact absurd (bl_zero hf' (by rw[←hb];rfl)) (by simp)
 | v::V,[],w,w',hf,e,hb=>by
  have hf':Full (v::V):=fun t ht=>hf t (List.mem_append_left _ ht)
  exact absurd (bl_zero hf' (by rw[hb];rfl)) (by simp)
 | v::V,v'::V',w,w',hf,e,hb=>by
  simp only[List.cons_append,List.cons.injEq]at e
  obtain⟨rfl,e⟩:=e
  rw[bl_cons,bl_cons]at hb
  obtain⟨rfl,rfl⟩:=split_eq (fun t ht=>hf t (List.mem_cons_of_mem _ ht)) e (by omega)
  exact⟨rfl,rfl⟩
theorem runs_split {g:G}{ts t1:List Tok}{b:Bool}{cs:List Tree}(h:Runs g ts [] b t1 cs):∃xs,ts=xs++t1∧bl xs=(srcL cs).length:=by
 obtain⟨k,rfl⟩:=runs_drop h
 refine⟨ts.take k,(List.take_append_drop _ _).symm,?_⟩
 have:=runs_src h
 rw[srcL,List.nil_append]at this
 have e:srcK ts=srcK (ts.take k)++srcK (ts.drop k):=by rw[←srcK_append,List.take_append_drop]
 rw[e]at this
 have:=congrArg List.length this
 simp only[List.length_append]at this
 unfold bl;omega
theorem skp_all {ts:List Tok}(h:∀t∈ts,triv t=true):skp ts=[]:=by
 induction ts with
 | nil=>rfl
 | cons t ts ih =>
  unfold skp at *
  rw[List.dropWhile_cons,if_pos (h t (List.mem_cons_self ..))]
  exact ih fun u hu=>h u (List.mem_cons_of_mem _ hu)
theorem end_drop {ts:List Tok}(hk:∀t∈ts,t.1≠100)(h:(pk ts).1=100):(∀t∈ts,triv t=true)∧∀i,(pk (ts.drop i)).1=100:=by
 have hs:skp ts=[]:=by
  cases hs:skp ts with
  | nil=>rfl
  | cons t r =>
   exfalso
   have hm:t∈ts:=by rw[←skp_split ts,hs];exact List.mem_append_right _ (List.mem_cons_self ..)
   rw[pk,hs]at h
   exact hk t hm h
 have ht:∀t∈ts,triv t=true:=by
  have:=skp_split ts
  rw[hs,List.append_nil]at this
  rw[←this]
  exact fun t ht=>List.all_eq_true.1 List.all_takeWhile t ht
 refine⟨ht,fun i=>?_⟩
 have:skp (ts.drop i)=[]:=skp_all fun t h=>ht t (List.mem_of_mem_drop h)
 rw[pk,this];rfl
theorem kids_from {ts:List Tok}{es:List Tree}{t':List Tok}(h:Items ts es t'):(∀t∈ts,t.1≠100)→∀i,i≤(es++t'.map leaf).length→∃V w,ts=V++w∧bl V=(srcL ((es++t'.map leaf).take i)).length∧Kids w ((es++t'.map leaf).drop i):=by
 induction h with
 | done ts h =>
  intro hk i hi
  refine⟨ts.take i,ts.drop i,(List.take_append_drop _ _).symm,?_,?_⟩
  ·rw[List.nil_append,←List.map_take,srcL_leaf]
  ·rw[List.nil_append,←List.map_drop]
   exact kids_end ((end_drop hk h).2 i)
 | step h hi hr ih =>
  intro hk i hl
  obtain⟨xs,e1,e2⟩:=runs_split hi
  cases i with
  | zero =>
   exact⟨[],_,rfl,rfl,kids_step h hi ⟨_,_,hr,rfl⟩⟩
  | succ i =>
   obtain⟨V,w,k1,k2,k3⟩:=ih (fun t ht=>hk t (by rw[e1];exact List.mem_append_right _ ht)) i (by simp only[List.cons_append,List.length_cons]at hl;omega)
   refine⟨xs++V,w,by rw[e1,k1,List.append_assoc],?_,k3⟩
   rw[bl_app,k2,List.cons_append,List.take_succ_cons,srcL,List.length_append,e2,srcL_one]
theorem kids_rest {ts V w:List Tok}{cs:List Tree}(hk:∀t∈ts,t.1≠100)(hf:Full ts)(h:Kids ts cs)(e:ts=V++w){i:Nat}(hi:i≤cs.length)(hb:bl V=(srcL (cs.take i)).length):Kids w (cs.drop i):=by
 obtain⟨es,t',h,rfl⟩:=h
 obtain⟨V',w',k1,k2,k3⟩:=kids_from h hk i hi
 obtain⟨rfl,rfl⟩:=split_eq (by rw[←e];exact hf) (e.symm.trans k1) (hb.trans k2.symm)
 exact k3
def sigW (ts:List Tok):Nat:=bl (ts.takeWhile triv++(skp ts).take 1)
theorem sig_la (ts:List Tok):sigW ts+bl (la ts)=bl ts:=by
 unfold sigW
 rw[←bl_app,bump_split]
def keepN (a:Nat):Nat→List Tok→Nat
 | _,[]=>0
 | o,t::r=>if o+t.2.length<a then keepN a (o+t.2.length) r+1 else 0
theorem keepN_app {a:Nat}:∀{P r:List Tok}{o:Nat},o+bl P<a→keepN a o (P++r)=P.length+keepN a (o+bl P) r
 | [],r,o,h=>by rw[List.nil_append,List.length_nil,Nat.zero_add];rfl
 | t::P,r,o,h=>by
  rw[bl_cons]at h ⊢
  rw[List.cons_append,keepN,if_pos (by omega),keepN_app (by omega),List.length_cons]
  rw[Nat.add_assoc o];omega
def Ed (a o:Nat)(ts us:List Tok):Prop:=∃u,us=ts.take (keepN a o ts)++u
theorem Ed.cut {a o:Nat}{P r us:List Tok}(h:Ed a o (P++r) us)(hb:o+bl P<a):∃v,us=P++v∧Ed a (o+bl P) r v:=by
 obtain⟨u,rfl⟩:=h
 rw[keepN_app hb]
 refine⟨r.take (keepN a (o+bl P) r)++u,?_,u,rfl⟩
 rw[List.take_length_add_append,List.append_assoc]
theorem bump_pre (ts:List Tok):∃A,ts=A++la ts∧bl A=sigW ts∧(skp ts≠[]→skp A≠[]):=by
 refine⟨ts.takeWhile triv++(skp ts).take 1,(bump_split ts).symm,rfl,fun h=>?_⟩
 cases hs:skp ts with
 | nil=>exact absurd hs h
 | cons t l =>
  rw[skp_app]
  have h1:skp (ts.takeWhile triv)=[]:=skp_all fun t ht=>List.all_eq_true.1 List.all_takeWhile t ht
  have h2:triv t=false:=by
   have:=List.head?_dropWhile_not (p:=triv) (l:=ts)
   have e:ts.dropWhile triv=t::l:=hs
   rw[e]at this
   simpa using this
  rw[if_pos h1]
  show ([t]:List Tok).dropWhile triv≠[]
  rw[List.dropWhile_cons,h2]
  simp
theorem item_kept {a o:Nat}{ts us t1:List Tok}{b:Bool}{x:Tree}(hi:Runs gItem ts [] b t1 [x])(hE:Ed a o ts us)(hl:o+(srcT x).length+sigW t1+sigW (la t1)<a)(ha:a≤o+bl ts) :
  ∃us1 xs,us=xs++us1∧bl xs=(srcT x).length∧Runs gItem us [] b us1 [x]∧Ed a (o+(srcT x).length) t1 us1∧pk us=pk ts:=by
 obtain⟨xs,e1,e2⟩:=runs_split hi
 rw[srcL_one]at e2
 have hb:bl ts=bl xs+bl t1:=by rw[e1,bl_app]
 have s1:=sig_la t1
 have s2:=sig_la (la t1)
 have n1:skp t1≠[]:=fun h=>by
  have:la t1=[]:=by unfold la;rw[h];rfl
  rw[this,bl_nil]at s1
  omega
 have n2:skp (la t1)≠[]:=fun h=>by
  have:la (la t1)=[]:=by rw[la,h];rfl
  rw[this,bl_nil]at s2
  omega
 obtain⟨A1,p1,p2,p3⟩:=bump_pre t1
 obtain⟨A2,q1,q2,q3⟩:=bump_pre (la t1)
 rw[e1]at hE
 obtain⟨v,rfl,hv⟩:=hE.cut (by omega)
 have hv':Ed a (o+bl xs) (A1++(A2++la (la t1))) v:=by rw[←q1,←p1];exact hv
 obtain⟨v1,rfl,hv1⟩:=hv'.cut (by omega)
 obtain⟨v2,rfl,_⟩:=hv1.cut (by omega)
 have hA:Agree t1 (A1++(A2++v2)):=by
  have z1:=p3 n1
  have z2:=q3 n2
  have p4:t1=A1++(A2++la (la t1)):=by rw[←q1];exact p1
  generalize la (la t1)=z at p4
  subst p4
  refine⟨?_,?_,fun h=>?_,fun h=>?_⟩
  ·rw[pk_app A1 (A2++z),pk_app A1 (A2++v2),if_neg z1,if_neg z1]
  ·rw[la_app A1 (A2++z),la_app A1 (A2++v2),if_neg z1,if_neg z1,←List.append_assoc,←List.append_assoc,pk_app (la A1++A2) z,pk_app (la A1++A2) v2]
   have:skp (la A1++A2)≠[]:=by
    rw[skp_app];split
    ·exact z2
    ·rename_i h;simp[h]
   rw[if_neg this,if_neg this]
  ·exact absurd (List.append_eq_nil_iff.1 h).1 (fun h=>by rw[h]at z1;exact z1 rfl)
  ·rw[skp_app,if_neg z1]at h
   exact absurd (List.append_eq_nil_iff.1 h).1 z1
 rw[e1]at hi
 refine⟨_,xs,rfl,e2,item_local hi hA,?_,?_⟩
 ·rw[←e2];exact hv
 ·rw[e1];exact(hA.pk xs).symm
end Pm
end

section
namespace LexF
open Go
theorem sc_nl (b:List UInt8):∀(l:List UInt8)(i:Nat),sc (l++10::b) i=sc l i
 | [],i=>by
  cases b with
  | nil=>simp[sc]
  | cons c r=>simp[sc]
 | [x],i=>by
  show sc (x::10::b) i=sc [x] i
  rw[sc,sc]
  by_cases h1:x=10
  ·subst h1;simp
  ·rw[if_neg h1]
   by_cases h2:x=34
   ·rw[if_pos h2,if_pos h2]
   ·rw[if_neg h2,if_neg h2,if_neg (by simp)]
    have:=sc_nl b [] (i+1)
    rw[List.nil_append]at this
    rw[this,sc]
 | x::y::r,i=>by
  show sc (x::y::(r++10::b)) i=_
  rw[sc,sc,sc_nl b r (i+2),show y::(r++10::b)=(y::r)++10::b from rfl,sc_nl b (y::r) (i+1)]
theorem drop_scan (p:UInt8→Bool):∀l:List UInt8,l.drop (scanN p l)=l.dropWhile p
 | []=>rfl
 | c::r=>by
  have ih:=drop_scan p r
  unfold scanN at ih ⊢
  rw[List.takeWhile_cons,List.dropWhile_cons]
  split
  ·simpa using ih
  ·rfl
end LexF
end

section
namespace LexF
open Go
theorem scan_look {p:UInt8→Bool}(rest:List UInt8):∀(l:List UInt8)(q:Nat),scanN p l<q→q≤l.length→scanN p (l.take q++rest)=scanN p l
 | [],q,h,hq=>by simp at hq;omega
 | c::r,0,h,_=>by omega
 | c::r,q+1,h,hq=>by
  rw[List.take_succ_cons,List.cons_append]
  unfold scanN at h ⊢
  rw[List.takeWhile_cons]at h
  rw[List.takeWhile_cons,List.takeWhile_cons]
  cases hc:p c with
  | true =>
   rw[hc]at h
   simp only[if_true,List.length_cons]at h ⊢
   have:=scan_look (p:=p) rest r q (by unfold scanN;omega) (by simpa using hq)
   unfold scanN at this
   rw[this]
  | false=>simp
theorem sc_look (rest:List UInt8):∀(l:List UInt8)(i n q:Nat),sc l i=some n→n≤i+q→q≤l.length→sc (l.take q++rest) i=some n
 | [],i,n,q,h,_,_=>by simp[sc]at h
 | [b],i,n,q,h,hn,hq=>by
  have hb:=sc_bounds _ _ _ h
  unfold sc at h
  split at h
  ·rename_i hb34
   cases h
   have:q=1:=by simp at hq;omega
   subst this
   subst hb34
   cases rest with
   | nil=>rfl
   | cons c r=>simp[sc]
  ·cases h
 | b::c::r,i,n,q,h,hn,hq=>by
  have hb:=sc_bounds _ _ _ h
  rw[sc]at h
  obtain⟨q,rfl⟩:∃k,q=k+1:=⟨q-1,by omega⟩
  split at h
  ·cases h
  rename_i h1
  split at h
  ·rename_i h2
   cases h
   rw[List.take_succ_cons,List.cons_append]
   subst h2
   generalize List.take q (c::r)++rest=m
   cases m with
   | nil=>rfl
   | cons d m=>simp[sc]
  rename_i h2
  obtain⟨q,rfl⟩:∃k,q=k+1:=⟨q-1,by
   have hge:i+2≤n:=by
    split at h
    ·have:=(sc_bounds _ _ _ h).1;omega
    ·have:=(sc_bounds _ _ _ h).1;omega
   omega⟩
  rw[List.take_succ_cons,List.take_succ_cons,List.cons_append,List.cons_append,sc,if_neg h1,if_neg h2]
  split at h
  ·rename_i h3
   rw[if_pos h3]
   have:=(sc_bounds _ _ _ h).1
   exact sc_look rest r (i+2) n q h (by omega) (by simp at hq;omega)
  ·rename_i h3
   rw[if_neg h3]
   have:=sc_look rest (c::r) (i+1) n (q+1) h (by omega) (by simp at hq ⊢;omega)
   rw[List.take_succ_cons,List.cons_append]at this
   exact this
theorem scan_cut {l:List UInt8}(h:scanN notNL l<l.length):l=l.take (scanN notNL l)++10::l.drop (scanN notNL l+1):=by
 have hd:=drop_scan notNL l
 have hne:l.drop (scanN notNL l)≠[]:=by
  intro e
  have:=congrArg List.length e
  simp at this
  omega
 have hh:l.drop (scanN notNL l)=10::l.drop (scanN notNL l+1):=by
  rw[List.drop_eq_getElem_cons h]
  congr 1
  have:¬notNL l[scanN notNL l]=true:=by
   have e:l.dropWhile notNL=l[scanN notNL l]::l.drop (scanN notNL l+1):=by rw[←hd,List.drop_eq_getElem_cons h]
   have:=List.head?_dropWhile_not (p:=notNL) (l:=l)
   rw[e]at this
   have this:notNL l[scanN notNL l]=false:=this
   rw[this]
   simp
  simpa[notNL] using this
 rw[←hh,List.take_append_drop]
theorem first_look (l rest:List UInt8)(p:Nat)(hl:l≠[])(h:(first l).1<p)(hp:p≤l.length):first (l.take p++rest)=first l:=by
 have hb:=(first_bounds l hl).1
 obtain⟨c,d,r,rfl⟩:∃c d r,l=c::d::r:=by
  match l,hp with
  | [],hp=>simp at hp;omega
  | [c],hp=>simp at hp;omega
  | c::d::r,_=>exact⟨c,d,r,rfl⟩
 obtain⟨q,rfl⟩:∃q,p=q+2:=⟨p-2,by omega⟩
 have e:(c::d::r).take (q+2)++rest=c::d::(r.take q++rest):=by simp
 have look:∀f:UInt8→Bool,scanN f (c::d::r)<q+2→scanN f (c::d::(r.take q++rest))=scanN f (c::d::r):=fun f hf=>by
  have:=scan_look (p:=f) rest (c::d::r) (q+2) hf hp
  rwa [e]at this
 rw[e]
 rw[first]at h
 rw[first,first]
 by_cases c1:isSp c=true
 ·rw[if_pos c1]at h
  rw[if_pos c1,if_pos c1,look _ h]
 rw[if_neg c1]at h
 rw[if_neg c1,if_neg c1]
 have e2:Lib.hasPrefix (c::d::(r.take q++rest)) [47,47]=Lib.hasPrefix (c::d::r) [47,47]:=by simp[Lib.hasPrefix,List.isPrefixOf]
 rw[e2]
 by_cases c2:Lib.hasPrefix (c::d::r) [47,47]=true
 ·rw[if_pos c2]at h
  rw[if_pos c2,if_pos c2,look _ h]
 rw[if_neg c2]at h
 rw[if_neg c2,if_neg c2]
 by_cases c3:isLet c=true
 ·rw[if_pos c3]at h
  have hw:scanN isWord (c::d::r)<q+2:=by split at h<;>exact h
  have ht:(c::d::(r.take q++rest)).take (scanN isWord (c::d::r))=(c::d::r).take (scanN isWord (c::d::r)):=by
   rw[←e,List.take_append_of_le_length (by rw[List.length_take];omega),List.take_take,Nat.min_eq_left (by omega)]
  rw[if_pos c3,if_pos c3,look _ hw,ht]
 rw[if_neg c3]at h
 rw[if_neg c3,if_neg c3]
 by_cases c4:isDig c=true
 ·rw[if_pos c4]at h
  rw[if_pos c4,if_pos c4,look _ h]
 rw[if_neg c4]at h
 rw[if_neg c4,if_neg c4]
 by_cases c5:c=34
 ·rw[if_pos c5]at h
  rw[if_pos c5,if_pos c5]
  unfold scanStr at h ⊢
  simp only[List.drop_succ_cons,List.drop_zero]at h ⊢
  have hq:q+1≤(d::r).length:=by simp at hp ⊢;omega
  have e3:(d::r).take (q+1)++rest=d::(r.take q++rest):=by simp
  cases hs:sc (d::r) 1 with
  | some n =>
   rw[hs]at h
   simp only at h
   have:=sc_look rest (d::r) 1 n (q+1) hs (by omega) hq
   rw[e3]at this
   rw[this]
  | none =>
   rw[hs]at h
   simp only at h
   have hlt:scanN notNL (d::r)<q+1:=by omega
   have hlook:=scan_look (p:=notNL) rest (d::r) (q+1) hlt hq
   rw[e3]at hlook
   have k1:=scan_cut (l:=d::r) (by omega)
   have k2:=scan_cut (l:=d::(r.take q++rest)) (by
    rw[hlook,←e3,List.length_append,List.length_take];omega)
   rw[hlook]at k2
   have ht:(d::(r.take q++rest)).take (scanN notNL (d::r))=(d::r).take (scanN notNL (d::r)):=by
    rw[←e3,List.take_append_of_le_length (by rw[List.length_take];omega),List.take_take,Nat.min_eq_left (by omega)]
   rw[ht]at k2
   have s1:sc (d::r) 1=sc ((d::r).take (scanN notNL (d::r))) 1:=by
    conv=>lhs;rw[k1]
    exact sc_nl _ _ _
   have s2:sc (d::(r.take q++rest)) 1=sc ((d::r).take (scanN notNL (d::r))) 1:=by
    conv=>lhs;rw[k2]
    exact sc_nl _ _ _
   rw[s2,←s1,hs,hlook]
 ·rw[if_neg c5,if_neg c5]
  have e4:(1<(c::d::(r.take q++rest)).length∧(c::d::(r.take q++rest)).take 2∈two) ↔ (1<(c::d::r).length∧(c::d::r).take 2∈two):=by
   constructor<;>rintro⟨_,h⟩<;>exact⟨by simp,by simpa using h⟩
  by_cases k:1<(c::d::r).length∧(c::d::r).take 2∈two
  ·rw[if_pos k,if_pos (e4.2 k)]
  ·rw[if_neg k,if_neg (fun h=>k (e4.1 h))]
def ends:Nat→List Tok→List Nat
 | _,[]=>[]
 | o,t::r=>(o+t.2.length)::ends (o+t.2.length) r
theorem ends_length:∀(ts:List Tok)(o:Nat),(ends o ts).length=ts.length
 | [],_=>rfl
 | t::r,o=>by simp[ends,ends_length r]
theorem ends_at:∀(ts:List Tok)(o i:Nat),i<ts.length→(ends o ts)[i]?=some (o+(srcOfT (ts.take (i+1))).length)
 | [],o,i,h=>by simp at h
 | t::r,o,0,h=>by simp[ends,srcOfT]
 | t::r,o,i+1,h=>by
  have:=ends_at r (o+t.2.length) i (by simpa using h)
  simp only[ends,List.getElem?_cons_succ,this,List.take_succ_cons]
  simp[srcOfT]
  omega
def keep (a:Nat):Nat→List Tok→Nat
 | _,[]=>0
 | o,t::r=>if o+t.2.length<a then keep a (o+t.2.length) r+1 else 0
theorem keep_le (a:Nat):∀(ts:List Tok)(o:Nat),keep a o ts≤ts.length
 | [],_=>Nat.le_refl _
 | t::r,o=>by unfold keep;split<;>simp;exact keep_le a r _
def offOf (ts:List Tok)(k:Nat):Nat:=(srcOfT (ts.take k)).length
theorem src_split (l:List UInt8)(k:Nat):l.drop (offOf (tokz l) k)=srcOfT ((tokz l).drop k):=by
 have h:=tokz_src _ l (Nat.le_refl _)
 have e:srcOfT (tokz l)=srcOfT ((tokz l).take k)++srcOfT ((tokz l).drop k):=by
  rw[srcOfT,srcOfT,srcOfT,←List.flatten_append,←List.map_append,List.take_append_drop]
 rw[h]at e
 have:l.drop (offOf (tokz l) k)=(srcOfT ((tokz l).take k)++srcOfT ((tokz l).drop k)).drop (offOf (tokz l) k):=by rw[←e]
 rw[this,offOf,List.drop_left]
theorem tokz_from (l:List UInt8)(k:Nat):tokz (l.drop (offOf (tokz l) k))=(tokz l).drop k:=by rw[src_split,tokz_drop]
theorem keep_tokz (rest:List UInt8)(a:Nat):∀(n:Nat)(l:List UInt8)(o:Nat),l.length≤n→o≤a→a-o≤l.length→∀k,k≤keep a o (tokz l) →
  tokz (l.take (a-o)++rest)=(tokz l).take k++tokz ((l.take (a-o)++rest).drop (offOf (tokz l) k))∧o+offOf (tokz l) k≤a
 | _,l,o,_,ho,_,0,_=>by simp[offOf,srcOfT,ho]
 | 0,l,o,hn,ho,ha,k+1,hk=>by
  have:l=[]:=List.length_eq_zero_iff.1 (by omega)
  subst this
  simp[tokz,toks,keep]at hk
 | n+1,l,o,hn,ho,ha,k+1,hk=>by
  by_cases hl:l=[]
  ·subst hl;simp[tokz,toks,keep]at hk
  ·have hb:=first_bounds l hl
   rw[tokz_cons hl]at hk ⊢
   simp only[keep]at hk
   have hlen:(l.take (first l).1).length=(first l).1:=by rw[List.length_take];omega
   rw[hlen]at hk
   split at hk
   ·rename_i hlt
    have hf:=first_look l rest (a-o) hl (by omega) ha
    have hne:l.take (a-o)++rest≠[]:=by
     intro e
     have:=congrArg List.length e
     rw[List.length_append,List.length_take,List.length_nil]at this
     omega
    obtain⟨i1,i2⟩:=keep_tokz rest a n (l.drop (first l).1) (o+(first l).1) (by rw[List.length_drop];omega) (by omega) (by rw[List.length_drop];omega) k (by omega)
    have hd:(l.take (a-o)++rest).drop (first l).1=(l.drop (first l).1).take (a-(o+(first l).1))++rest:=by
     rw[List.drop_append_of_le_length (by rw[List.length_take];omega),List.drop_take]
     congr 2
     omega
    have ht:(l.take (a-o)++rest).take (first l).1=l.take (first l).1:=by
     rw[List.take_append_of_le_length (by rw[List.length_take];omega),List.take_take,Nat.min_eq_left (by omega)]
    have ho':offOf (((first l).2,l.take (first l).1)::tokz (l.drop (first l).1)) (k+1)=(first l).1+offOf (tokz (l.drop (first l).1)) k:=by
     simp only[offOf,srcOfT,List.take_succ_cons,List.map_cons,List.flatten_cons,List.length_append,hlen]
    refine⟨?_,by rw[ho'];omega⟩
    rw[tokz_cons hne,hf,hd,ht,i1,ho',List.take_succ_cons,List.cons_append,←List.drop_drop,hd]
   ·omega
def resume (es:List Nat)(q:Int):Int:=if q=0 then 0 else if(q.toNat∈es∧0≤q) then(es.countP (·<q.toNat):Nat)+1 else -1
theorem ends_mono:∀(ts:List Tok)(o:Nat),(∀t∈ts,t.2≠[])→(ends o ts).Pairwise (·<·)∧∀x∈ends o ts,o<x
 | [],o,_=>⟨.nil,fun x hx=>by simp[ends]at hx⟩
 | t::r,o,h=>by
  have ht:0<t.2.length:=List.length_pos_iff.2 (h t (by simp))
  obtain⟨h1,h2⟩:=ends_mono r (o+t.2.length) fun x hx=>h x (by simp[hx])
  refine⟨List.pairwise_cons.2 ⟨h2,h1⟩,fun x hx=>?_⟩
  rcases List.mem_cons.1 hx with rfl|hx
  ·omega
  ·have:=h2 x hx;omega
theorem count_at:∀(es:List Nat)(i x:Nat),es.Pairwise (·<·)→es[i]?=some x→es.countP (·<x)=i
 | [],i,x,_,h=>by simp at h
 | e::es,0,x,hp,h=>by
  simp at h;subst h
  rw[List.countP_eq_zero]
  intro y hy
  rcases List.mem_cons.1 hy with rfl|hy
  ·simp
  ·have:=(List.pairwise_cons.1 hp).1 y hy;simp;omega
 | e::es,i+1,x,hp,h=>by
  simp at h
  have hm:=(List.pairwise_cons.1 hp).1 x (List.mem_of_getElem? h)
  rw[List.countP_cons,count_at es i x (List.pairwise_cons.1 hp).2 h,if_pos (by simpa using hm)]
theorem resume_ok {l:List UInt8}{q:Int}(h:0≤resume (ends 0 (tokz l)) q):∃i:Nat,resume (ends 0 (tokz l)) q=i∧i≤(tokz l).length∧q=offOf (tokz l) i:=by
 unfold resume at h ⊢
 split at h
 ·rename_i hq
  rw[if_pos hq]
  exact⟨0,rfl,Nat.zero_le _,by simp[offOf,srcOfT,hq]⟩
 ·rename_i hq
  rw[if_neg hq]
  split at h
  ·rename_i hm
   rw[if_pos hm]
   obtain⟨i,hi⟩:=List.mem_iff_getElem?.1 hm.1
   have hlt:i<(tokz l).length:=by
    have:=(List.getElem?_eq_some_iff.1 hi).1
    rwa [ends_length]at this
   have hc:=count_at _ i _ (ends_mono (tokz l) 0 (tokz_text _ l (Nat.le_refl _))).1 hi
   rw[hc]
   rw[ends_at _ _ _ hlt]at hi
   refine⟨i+1,by simp,hlt,?_⟩
   have:=Option.some.inj hi
   unfold offOf
   omega
  ·omega
end LexF
end

section
namespace LexF
open Go
def kwR:List (List UInt8):=[[117,115,101],[112,117,98],[97,115],[102,110],[115,116,114,117,99,116],[101,110,117,109],[116,114,97,105,116],[105,109,112,108],[102,111,114],[99,111,110,115,116],[109,97,99,114,111],[108,101,116],[109,117,116],[119,104,105,108,101],[114,101,116,117,114,110],[109,97,116,99,104],[105,102],[101,108,115,101],[110,101,119],[116,114,117,101],[102,97,108,115,101],[116,121,112,101]]
def ptR:List (List UInt8):=[[58,58],[61,62],[45,62],[61,61],[38,38],[124,124],[40],[41],[123],[125],[91],[93],[60],[62],[44],[59],[58],[46],[61],[43],[45],[42],[47],[33],[38],[124]]
theorem kwR_eq:kwR=kw:=by decide +kernel
theorem ptR_eq:ptR=two++punct.map fun c=>[c]:=by decide +kernel
theorem two_len:∀w∈two,w.length=2:=by decide +kernel
def lit:List UInt8→Nat→Bool→Nat
 | [],_,_=>0
 | c::r,i,e=>if c=10 then 0 else if c=34∧e=false then i+1 else lit r (i+1) (decide (c=92)&&!e)
theorem lit_sc:∀(l:List UInt8)(i:Nat),lit l i false=(sc l i).getD 0
 | [],i=>rfl
 | [b],i=>by
  rw[lit,sc]
  by_cases h1:b=10
  ·subst h1;rfl
  ·rw[if_neg h1]
   by_cases h2:b=34
   ·subst h2;rfl
   ·rw[if_neg (by simp[h2]),if_neg h2];rfl
 | b::c::r,i=>by
  rw[lit,sc]
  by_cases h1:b=10
  ·subst h1;rfl
  ·rw[if_neg h1,if_neg h1]
   by_cases h2:b=34
   ·subst h2;rfl
   ·rw[if_neg (by simp[h2]),if_neg h2]
    by_cases h3:b=92
    ·subst h3
     by_cases h4:c=10
     ·subst h4
      rw[if_neg (by simp),lit,if_pos rfl]
      cases r<;>rfl
     ·rw[if_pos ⟨rfl,h4⟩,lit,if_neg h4,if_neg (by simp),←lit_sc r (i+2)]
      simp
    ·rw[if_neg (by simp[h3]),←lit_sc (c::r) (i+1)]
     simp[h3]
def ptF (l:List UInt8):List (List UInt8)→Option Nat
 | []=>none
 | p::ps=>if l.take p.length=p then some p.length else ptF l ps
theorem ptF_two (l:List UInt8)(B:List (List UInt8)):∀A:List (List UInt8),(∀w∈A,w.length=2)→ptF l (A++B)=if l.take 2∈A then some 2 else ptF l B
 | [],h=>by simp
 | p::A,h=>by
  have hp:=h p (List.mem_cons_self ..)
  rw[List.cons_append,ptF,hp]
  by_cases k:l.take 2=p
  ·rw[if_pos k,if_pos (by rw[k];exact List.mem_cons_self ..)]
  ·rw[if_neg k,ptF_two l B A fun w hw=>h w (List.mem_cons_of_mem _ hw)]
   by_cases m:l.take 2∈A
   ·rw[if_pos m,if_pos (List.mem_cons_of_mem _ m)]
   ·rw[if_neg m,if_neg (fun e=>by rcases List.mem_cons.1 e with e|e;exact k e;exact m e)]
theorem ptF_one (c:UInt8)(r:List UInt8):∀A:List UInt8,ptF (c::r) (A.map fun c=>[c])=if c∈A then some 1 else none
 | []=>by simp[ptF]
 | b::A=>by
  rw[List.map_cons,ptF]
  have e:(c::r).take [b].length=[c]:=rfl
  rw[e]
  by_cases k:c=b
  ·subst k;rw[if_pos rfl,if_pos (List.mem_cons_self ..)];rfl
  ·rw[if_neg (by simpa using k),ptF_one c r A]
   by_cases m:c∈A
   ·rw[if_pos m,if_pos (List.mem_cons_of_mem _ m)]
   ·rw[if_neg m,if_neg (fun e=>by rcases List.mem_cons.1 e with e|e;exact k e;exact m e)]
theorem indexByte_mem (l:List UInt8)(c:UInt8):0≤Lib.indexByte l c ↔ c∈l:=by
 induction l with
 | nil=>simp[Lib.indexByte]
 | cons b l ih =>
  rw[Lib.indexByte,List.mem_cons]
  by_cases h:b=c
  ·subst h;simp
  ·have hb:(b==c)=false:=by simpa using h
   have hc:¬c=b:=fun e=>h e.symm
   have g:=Lib.indexByte_ge l c
   rw[hb]
   simp only[Bool.false_eq_true,if_false,hc,false_or]
   split
   ·rename_i k
    have k:Lib.indexByte l c=-1:=by simpa using k
    rw[←ih];omega
   ·rename_i k
    have k:Lib.indexByte l c≠-1:=by simpa using k
    rw[←ih];omega
theorem two_short (l:List UInt8)(h:l.take 2∈two):1<l.length:=by
 have:=two_len _ h
 rw[List.length_take]at this;omega
def firstR (l:List UInt8):Nat × Nat :=
 if 0<scanN isSp l then(scanN isSp l,101)
 else if 1<l.length∧l.take 2=[47,47] then(scanN notNL l,102)
 else if 0<scanN isDig l then(scanN isDig l,105)
 else if 0<scanN isWord l then(if l.take (scanN isWord l)∈kwR then(scanN isWord l,104) else(scanN isWord l,103))
 else if l.head?=some 34 then(if 0<lit (l.drop 1) 1 false then(lit (l.drop 1) 1 false,106) else(scanN notNL l,108))
 else match ptF l ptR with
  | some n=>(n,107)
  | none=>(1,108)
theorem scan_zero {p:UInt8→Bool}{c:UInt8}{r:List UInt8}:0<scanN p (c::r) ↔ p c=true:=by
 unfold scanN
 rw[List.takeWhile_cons]
 cases p c<;>simp
theorem dig_not_let:∀c:UInt8,isDig c=true→isLet c=false:=by
 intro c h
 unfold isDig at h
 unfold isLet
 simp only[Bool.and_eq_true,decide_eq_true_eq]at h
 have:¬97≤c.toNat:=by omega
 have:¬65≤c.toNat:=by omega
 have:c.toNat≠95:=by omega
 simp[*]
theorem firstR_eq (c:UInt8)(r:List UInt8):firstR (c::r)=first (c::r):=by
 rw[firstR,first]
 by_cases h1:isSp c=true
 ·rw[if_pos (scan_zero.2 h1),if_pos h1]
 rw[if_neg (fun e=>h1 (scan_zero.1 e)),if_neg h1]
 have hp:(1<(c::r).length∧(c::r).take 2=[47,47]) ↔ Lib.hasPrefix (c::r) [47,47]=true:=by
  cases r with
  | nil=>simp[Lib.hasPrefix,List.isPrefixOf]
  | cons d r =>
   simp[Lib.hasPrefix,List.isPrefixOf]
   constructor
   ·rintro⟨rfl,rfl⟩;exact⟨rfl,rfl⟩
   ·rintro⟨rfl,rfl⟩;exact⟨rfl,rfl⟩
 by_cases h2:Lib.hasPrefix (c::r) [47,47]=true
 ·rw[if_pos (hp.2 h2),if_pos h2]
 rw[if_neg (fun e=>h2 (hp.1 e)),if_neg h2]
 by_cases h3:isDig c=true
 ·rw[if_pos (scan_zero.2 h3),if_neg (by rw[dig_not_let c h3];simp),if_pos h3]
 rw[if_neg (fun e=>h3 (scan_zero.1 e))]
 by_cases h4:isLet c=true
 ·rw[if_pos (scan_zero.2 (by unfold isWord;rw[h4];rfl)),if_pos h4,kwR_eq]
 rw[if_neg (fun e=>by have:=scan_zero.1 e;unfold isWord at this;simp[h3,h4]at this),if_neg h4,if_neg h3]
 have hd:(c::r).head?=some 34 ↔ c=34:=by simp
 by_cases h5:c=34
 ·subst h5
  rw[if_pos (hd.2 rfl),if_pos rfl,lit_sc,scanStr]
  cases hs:sc ((34::r).drop 1) 1 with
  | none =>
   rw[Option.getD_none,if_neg (by omega)]
   show (scanN notNL (34::r),108)=(1+scanN notNL r,108)
   unfold scanN
   rw[List.takeWhile_cons,if_pos (by decide),List.length_cons,Nat.add_comm]
  | some n =>
   have:=(sc_bounds _ _ _ hs).1
   rw[Option.getD_some,if_pos (by omega)]
 rw[if_neg (fun e=>h5 (hd.1 e)),if_neg h5,ptR_eq,ptF_two _ _ _ two_len,ptF_one]
 by_cases h6:(c::r).take 2∈two
 ·rw[if_pos h6,if_pos ⟨two_short _ h6,h6⟩]
 rw[if_neg h6,if_neg (show ¬(1<(c::r).length∧(c::r).take 2∈two) from fun e=>h6 e.2)]
 by_cases h7:c∈punct
 ·rw[if_pos h7,if_pos ((indexByte_mem _ _).2 h7)]
 ·rw[if_neg h7,if_neg (fun e=>h7 ((indexByte_mem _ _).1 e))]
end LexF
end
