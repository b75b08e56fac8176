/- Part of a machine over plain values. No conditions. -/
import Derived.Test.YtdmopjgjhfhfdaaGreatDoorAMOps
import Derived.Test.YtdmopjgjhfhfdaaGreatDoorAMEq
namespace Go.AM
section
variable {P:Program} {ty:Nat→Option TI} {n:Nat} {o:Oper} {e:Env} {h:Heap} {K:AK}
theorem aMove_sound (hd:∀d,o.dst=some d→d<n) {t:Nat} (ho:o.op=.move (.tmp t)∨o.op=.assign (.tmp t)) {mv:Nat→Bool} (hk:aMove o e t mv K):∃f,K f∧OpOK P n o e h f:=by
 have hrun:∀(a:Act) (w:World),(execOp a.eval o).run P w=.ok (.value (a.eval (.tmp t))) w:=by
  intro a w;rcases ho with ho|ho<;>simp[execOp,ho]
 have hsl:t∈slotsOf o:=by rcases ho with ho|ho<;>simp[slotsOf,ho,Op.operands]
 unfold aMove at hk;split at hk
 ·rename_i sz xs hso
  split at hk
  ·rename_i d hdd
   split at hk
   · -- with the right
    refine⟨_,hk,fun e' h' he _ g w a s=>Oper.wp_value (hrun a w) ?_⟩;have hv:=s.env t;rw[he t hsl,hso]at hv;generalize hval:a.tmps.getD t undef=v at hv;have hval':a.eval (.tmp t)=v:=hval;simp only[hval',hdd,List.reverse_cons,List.reverse_nil,List.nil_append,List.cons_append];have hpure:VRel g w (domOf h') none v (.p (.sl sz xs)):=hv.copy (ow':=none)
    cases hv with
    |full _ ad _ _ hz hp=>
     refine⟨g,?_,Ext.refl _ _⟩;have s1:=s.put (hd d hdd) (VRel.full (some (.slot d)) ad sz xs hz hp);refine⟨s1.defers,s1.size,fun i=>?_,s1.heap,s1.bnd⟩
     by_cases hi:t=i
     ·subst hi;rw[eget_self]
      have:=s1.env t
      by_cases hdt:d=t
      ·subst hdt;rw[eget_self]at this;exact this.copy
      ·rw[eget_ne hdt,he t hsl,hso]at this;exact this.copy
     ·rw[eget_ne hi];exact s1.env i
    |own _ ad cap _ _ cs E hz hp hw hpre hb hs=>
     refine⟨g.relabel ad.block (.slot d),?_,Ext.relabel hw⟩;refine⟨s.defers,by simp[Act.put,s.size],fun i=>?_,s.heap.relabel hw,fun b o' hb'=>?_⟩
     ·by_cases hi:t=i
      ·subst hi
       rw[eget_self]
       by_cases hdt:d=t
       ·subst hdt
        have:(a.put (some d) (.slice (some ad) xs.length cap)).tmps.getD d undef=.slice (some ad) xs.length cap:=by simp[Act.put,s.size,hd d hdd]
        rw[this];exact .p _ _ _ hp
       ·have:(a.put (some d) (.slice (some ad) xs.length cap)).tmps.getD t undef=.slice (some ad) xs.length cap:=by
         rw[←hval];simp[Act.put,Array.getD_eq_getD_getElem?,hdt]
        rw[this];exact .p _ _ _ hp
      ·rw[eget_ne hi]
       by_cases hdi:d=i
       ·subst hdi
        rw[eget_self];have:(a.put (some d) (.slice (some ad) xs.length cap)).tmps.getD d undef=.slice (some ad) xs.length cap:=by simp[Act.put,s.size,hd d hdd]
        rw[this];exact .own (.slot d) ad cap sz xs cs E hz hp (by simp[Gh.relabel]) hpre hb hs
       ·rw[eget_ne hdi]
        have:(a.put (some d) (.slice (some ad) xs.length cap)).tmps.getD i undef=a.tmps.getD i undef:=by simp[Act.put,Array.getD_eq_getD_getElem?,hdi]
        rw[this];exact(s.env i).relabel hw (by simp;exact fun e=>hi e.symm)
     ·by_cases hbb:b=ad.block
      ·subst hbb;exact s.bnd _ _ hw
      ·simp only[Gh.relabel,if_neg hbb]at hb';exact s.bnd _ _ hb'
   ·refine⟨_,hk,fun e' h' he _ g w a s=>Oper.wp_value (hrun a w) ⟨g,?_,Ext.refl _ _⟩⟩
    have hv:=s.env t;rw[he t hsl,hso]at hv;rw[hdd];exact s.put (hd d hdd) hv.copy
  ·exact hk.elim
 ·rename_i hns
  refine ret_sound hd hk fun e' h' he g w a s=>⟨_,hrun a w,fun d _=>?_⟩
  have:=s.env t;rw[he t hsl]at this;exact this.anyOwner (fun sz xs e=>hns sz xs e)
theorem operand_sound (hd:∀d,o.dst=some d→d<n) {x:Operand} (ho:o.op=.move x∨o.op=.assign x) (hx:∀t,x≠.tmp t) (hk:ret o (ev e x) K):∃f,K f∧OpOK P n o e h f:=by
 refine ret_sound hd hk fun e' h' he g w a s=>⟨a.eval x,by rcases ho with ho|ho<;>simp[execOp,ho],fun d _=>?_⟩
 have hm:x∈o.op.operands:=by rcases ho with ho|ho<;>simp[ho,Op.operands]
 obtain⟨ow,hr⟩:=s.ev x;rw[ev_congr he hm]at hr;refine hr.anyOwner fun sz xs e=>?_
 cases x with
 |tmp t=>exact hx t rfl
 |const v=>exact(constAV_so e).elim
 |func f=>simp[ev]at e
 |global b=>simp[ev]at e
theorem VRel.bool {g:Gh} {w:World} {dom:Nat→Prop} {ow:Option Owner} {v:Value} {x:Bool} (r:VRel g w dom ow v (.p (.b x))):v=.bool x:=by
 cases r with|p _ _ _ h=>cases h;rfl
theorem VRel.int {g:Gh} {w:World} {dom:Nat→Prop} {ow:Option Owner} {v:Value} {k:IntKind} {x:Int} (r:VRel g w dom ow v (.p (.i k x))):v=.int k x:=by
 cases r with|p _ _ _ h=>cases h;rfl
theorem VRel.str {g:Gh} {w:World} {dom:Nat→Prop} {ow:Option Owner} {v:Value} {x:ByteArray} (r:VRel g w dom ow v (.p (.s x))):v=.string x:=by
 cases r with|p _ _ _ h=>cases h;rfl
theorem Sim.evo {g:Gh} {w:World} {n:Nat} {a:Act} {e':Env} {h':Heap} (s:Sim g w n a e' h') (he:∀t∈slotsOf o,eget e' t=eget e t) {x:Operand} (hx:x∈o.op.operands) {y:AV} (hy:Go.AM.ev e x=y):
 ∃ow,VRel g w (domOf h') ow (a.eval x) y:=by
 obtain⟨ow,hr⟩:=s.ev x;rw[ev_congr he hx,hy]at hr;exact⟨ow,hr⟩
theorem aPick_sound (hd:∀d,o.dst=some d→d<n) {c x y:Operand} (ho:o.op=.pick c x y) {gd:Bool} (hc:ev e c=.p (.b gd)) (hk:ASplit gd (ret o (ev e x).copy K) (ret o (ev e y).copy K)):∃f,K f∧OpOK P n o e h f:=by
 have m1:c∈o.op.operands:=by simp[ho,Op.operands]
 have m2:x∈o.op.operands:=by simp[ho,Op.operands]
 have m3:y∈o.op.operands:=by simp[ho,Op.operands]
 cases gd with
 |true=>
  refine ret_sound hd hk fun e' h' he g w a s=>?_;obtain⟨_,r1⟩:=s.evo he m1 hc;obtain⟨_,r2⟩:=s.evo he m2 rfl;exact⟨a.eval x,by simp[execOp,ho,r1.bool,asBool],fun d _=>r2.copy⟩
 |false=>
  refine ret_sound hd hk fun e' h' he g w a s=>?_;obtain⟨_,r1⟩:=s.evo he m1 hc;obtain⟨_,r2⟩:=s.evo he m3 rfl;exact⟨a.eval y,by simp[execOp,ho,r1.bool,asBool],fun d _=>r2.copy⟩
theorem eqGuard_plain {op:BinOp} {t:TypeId} {x y:Operand} {v u:Value} {w:World} (h:(∀a,v≠.agg a)∧v≠.nilIface):(eqGuard op t x y v u).run P w=.ok () w:=by
 cases v with
 |agg a=>exact absurd rfl (h.1 a)
 |nilIface=>exact absurd rfl h.2
 |_=>cases op<;>rfl
theorem run_equalIn_bool (d:Nat) {t:TypeId} (h:P.underlying t=some .bool) (a b:Bool) (w:World):(Op.equalIn (d+1) t (.bool a) (.bool b)).run P w=.ok (a==b) w:=by
 simp only[Op.equalIn,Sem.run_bind,run_underlying h,Result.andThen_ok,Sem.run_pure]
theorem PRel.someAd {M:Mm} {a:Option Addr} {m c sz:Nat} {y:PV} {ys:List PV} (r:PRel M (.slice a m c) (.sl sz (y::ys))):a.isNone=false:=by
 generalize hv:Value.slice a m c=v at r;generalize hx:PV.sl sz (y::ys)=x at r
 cases r with
 |sl b cap sz' xs f=>cases hv;rfl
 |nil=>cases hx
 |_=>first|(cases hx;done)|(cases hv;done)
theorem nilEq_rel {g:Gh} {w:World} {dom:Nat→Prop} {ow:Option Owner} {v:Value} {x:AV} {b:Bool} (r:VRel g w dom ow v x) (h:nilEq x=some b):∃a n c,v=.slice a n c∧a.isNone=b:=by
 unfold nilEq at h;split at h
 ·cases h;cases r;exact⟨none,0,0,rfl,rfl⟩
 ·cases h;cases r with|es _ a cap sz hs=>exact⟨some a,0,cap,rfl,rfl⟩
 ·cases h
  cases r with
  |p _ _ _ hp=>cases hp with|sl a cap _ _ f=>exact⟨some a,_,cap,rfl,rfl⟩
 ·cases h
  cases r with
  |full _ a _ _ hz hp=>exact⟨a,_,_,rfl,hp.someAd⟩
  |own _ a cap _ _ cs E hz hp=>exact⟨some a,_,cap,rfl,rfl⟩
 ·cases h
theorem run_equalIn_nil (d:Nat) {t el:TypeId} (h:P.underlying t=some (.slice el)) (a:Option Addr) (n c:Nat) (w:World):(Op.equalIn (d+1) t (.slice a n c) (.slice none 0 0)).run P w=.ok a.isNone w:=by
 cases a<;>simp[Op.equalIn,run_underlying h]
theorem run_eq_nil (hty:TyOK P ty) {t:Nat} (ht:isSliceT ty t=true) {a:Option Addr} {n c:Nat} {w:World}:(Op.equal t (.slice a n c) (.slice none 0 0)).run P w=.ok a.isNone w:=by
 unfold isSliceT at ht;split at ht
 ·rename_i i hi
  split at ht
  ·rename_i el hde
   have hu:=(hty t i hi).und;rw[hde]at hu;exact run_equalIn_nil 9999 hu a n c w
  ·cases ht
 ·cases ht
theorem aBin_sound (hty:TyOK P ty) (hd:∀d,o.dst=some d→d<n) {op:BinOp} {t t':TypeId} {x y:Operand} (ho:o.op=.binOp op t x y t') (hk:aBin ty o op t (ev e x) (ev e y) K):∃f,K f∧OpOK P n o e h f:=by
 have m1:x∈o.op.operands:=by simp[ho,Op.operands]
 have m2:y∈o.op.operands:=by simp[ho,Op.operands]
 unfold aBin at hk;split at hk
 ·rename_i k a1 k' b1 hx hy
  split at hk
  · -- rem
   obtain⟨⟨rfl,hb⟩,hk⟩:=hk;refine ret_sound hd hk fun e' h' he g w a s=>?_;obtain⟨_,r1⟩:=s.evo he m1 hx;obtain⟨_,r2⟩:=s.evo he m2 hy;refine⟨.int k (a1.tmod b1),?_,fun d _=>.p _ _ _ (.i _ _)⟩;simp[execOp,ho,r1.int,r2.int,eqGuard_plain,binOp,Op.intDiv,hb]
  ·obtain⟨⟨rfl,hb⟩,hk⟩:=hk
   refine ret_sound hd hk fun e' h' he g w a s=>?_;obtain⟨_,r1⟩:=s.evo he m1 hx;obtain⟨_,r2⟩:=s.evo he m2 hy;refine⟨.int k (k.wrap (a1.tdiv b1)),?_,fun d _=>.p _ _ _ (.i _ _)⟩;simp[execOp,ho,r1.int,r2.int,eqGuard_plain,binOp,Op.intDiv,hb]
  ·rename_i op' hn1 hn2
   split at hk
   ·rename_i v hv
    split at hk
    ·rename_i hkk
     have hkk:k=k':=of_decide_eq_true hkk;subst hkk;refine ret_sound hd hk fun e' h' he g w a s=>?_;obtain⟨_,r1⟩:=s.evo he m1 hx;obtain⟨_,r2⟩:=s.evo he m2 hy
     cases op<;>simp only[binI,Option.some.injEq,reduceCtorEq]at hv<;>subst hv <;>
      first
      |(refine⟨.int k _,?_,fun d _=>.p _ _ _ (.i _ _)⟩
        simp[execOp,ho,r1.int,r2.int,eqGuard_plain,binOp,Op.intArith];done)
      |(refine⟨.int k _,?_,fun d _=>.p _ _ _ (.i _ _)⟩
        simp only[execOp,ho,r1.int,r2.int,Sem.run_bind,eqGuard_plain (v:=.int k a1) ⟨fun _=>by simp,by simp⟩,Result.andThen_ok,binOp,Op.intBits,bitI,ne_eq,not_true_eq_false,if_false,Sem.run_pure];done)
      |(refine⟨.bool _,?_,fun d _=>.p _ _ _ (.b _)⟩
        simp[execOp,ho,r1.int,r2.int,eqGuard_plain,binOp,Op.intCmp];done)
    ·exact hk.elim
   ·exact hk.elim
 ·rename_i a1 b1 hx hy
  split at hk
  ·obtain⟨hb,hk⟩:=hk
   refine ret_sound hd hk fun e' h' he g w a s=>?_;obtain⟨_,r1⟩:=s.evo he m1 hx;obtain⟨_,r2⟩:=s.evo he m2 hy;refine⟨.string (a1++b1),?_,fun d _=>.p _ _ _ (.s _)⟩
   have hno:¬((a1.size+b1.size:Nat):Int)>IntKind.i64.max:=by
    have:IntKind.i64.max=9223372036854775807:=by decide
    rw[this];omega
   simp only[execOp,ho,r1.str,r2.str,Sem.run_bind,eqGuard_plain (v:=.string a1) ⟨fun _=>by simp,by simp⟩,Result.andThen_ok,binOp,Op.stringOp,Sem.run_pure,if_neg hno]
  ·rename_i op' hn1
   split at hk
   ·rename_i v hv
    refine ret_sound hd hk fun e' h' he g w a s=>?_;obtain⟨_,r1⟩:=s.evo he m1 hx;obtain⟨_,r2⟩:=s.evo he m2 hy
    cases op<;>simp only[binS,Option.some.injEq,reduceCtorEq]at hv<;>subst hv <;>
     (refine⟨.bool _,?_,fun d _=>.p _ _ _ (.b _)⟩
      simp only[execOp,ho,r1.str,r2.str,Sem.run_bind,eqGuard_plain (v:=.string a1) ⟨fun _=>by simp,by simp⟩,Result.andThen_ok,binOp,Op.stringOp,Sem.run_pure])
   ·exact hk.elim
 ·rename_i hy
  split at hk
  ·rename_i b hb hst
   refine ret_sound hd hk fun e' h' he g w a s=>?_;obtain⟨_,r1⟩:=s.evo he m1 rfl;obtain⟨_,r2⟩:=s.evo he m2 hy;obtain⟨ad,n1,n2,hv,hbe⟩:=nilEq_rel r1 hb;refine⟨.bool b,?_,fun d _=>.p _ _ _ (.b _)⟩;have hyv:a.eval y=.slice none 0 0:=by generalize a.eval y=u at r2;cases r2;rfl
   simp[execOp,ho,hv,hyv,eqGuard_plain,binOp,run_eq_nil hty hst,hbe]
  ·rename_i b hb hst
   refine ret_sound hd hk fun e' h' he g w a s=>?_;obtain⟨_,r1⟩:=s.evo he m1 rfl;obtain⟨_,r2⟩:=s.evo he m2 hy;obtain⟨ad,n1,n2,hv,hbe⟩:=nilEq_rel r1 hb;refine⟨.bool (!b),?_,fun d _=>.p _ _ _ (.b _)⟩;have hyv:a.eval y=.slice none 0 0:=by generalize a.eval y=u at r2;cases r2;rfl
   simp[execOp,ho,hv,hyv,eqGuard_plain,binOp,run_eq_nil hty hst,hbe]
  ·exact hk.elim
 ·rename_i a1 b1 hx hy
  have hb:isBoolT ty t=true→P.underlying t=some .bool:=by
   intro hb;unfold isBoolT at hb;split at hb
   ·rename_i i hi
    split at hb
    ·rename_i hdd;rw[←hdd];exact(hty t i hi).und
    ·cases hb
   ·cases hb
  have heq:isBoolT ty t=true→∀w,(Op.equal t (.bool a1) (.bool b1)).run P w=.ok (a1==b1) w:=by
   intro h1 w;exact run_equalIn_bool 9999 (hb h1) a1 b1 w
  split at hk
  ·rename_i hbt
   refine ret_sound hd hk fun e' h' he g w a s=>?_;obtain⟨_,r1⟩:=s.evo he m1 hx;obtain⟨_,r2⟩:=s.evo he m2 hy;refine⟨.bool (a1==b1),?_,fun d _=>.p _ _ _ (.b _)⟩;simp[execOp,ho,r1.bool,r2.bool,eqGuard_plain,binOp,heq hbt]
  ·rename_i hbt
   refine ret_sound hd hk fun e' h' he g w a s=>?_;obtain⟨_,r1⟩:=s.evo he m1 hx;obtain⟨_,r2⟩:=s.evo he m2 hy;refine⟨.bool (!(a1==b1)),?_,fun d _=>.p _ _ _ (.b _)⟩;simp[execOp,ho,r1.bool,r2.bool,eqGuard_plain,binOp,heq hbt]
  ·exact hk.elim
 ·rename_i xs ys hx hy
  split at hk
  ·rename_i i hi
   split at hk
   ·rename_i kd ks hks
    have he:eqOK P t (kd::ks)=true:=by
     rcases (hty t i hi).eqs with q|q
     ·rw[q]at hks;cases hks
     ·rw[hks]at q;exact q
    have run:∀{g:Gh} {w:World} {h':Heap} {v u:Value} {ow ow':Option Owner} {q:Bool},flatEq (kd::ks) xs ys=some q→VRel g w (domOf h') ow v (.p (.agg xs))→VRel g w (domOf h') ow' u (.p (.agg ys))→
     ∃vs us,v=.agg vs∧u=.agg us∧(Op.equalIn 10000 t v u).run P w=.ok q w∧P.eqGuardType P.depth t=false:=by
     intro g w h' v u ow ow' q hq r1 r2
     cases r1 with
     |p _ _ _ p1=>
      cases r2 with
      |p _ _ _ p2=>
       cases p1 with
       |agg vs _ hl1 h11 hx1=>
        cases p2 with
        |agg us _ hl2 h12 hx2=>
         obtain⟨a1,a2⟩:=run_equal_flat (by simp) he (.agg vs xs hl1 h11 hx1) (.agg us ys hl2 h12 hx2) hq w;exact⟨_,_,rfl,rfl,a1,a2⟩
    split at hk
    ·rename_i q hq
     refine ret_sound hd hk fun e' h' he g w a s=>?_;obtain⟨_,r1⟩:=s.evo he m1 hx;obtain⟨_,r2⟩:=s.evo he m2 hy;obtain⟨vs,us,e1,e2,hr,hg⟩:=run hq r1 r2;refine⟨.bool q,?_,fun d _=>.p _ _ _ (.b _)⟩;rw[e1,e2]at hr;simp only[execOp,ho,e1,e2,Sem.run_bind,run_eqGuard_agg w _ _ _ _ _ _ hg,Result.andThen_ok,run_eql_struct,hr,Sem.run_pure]
    ·rename_i q hq
     refine ret_sound hd hk fun e' h' he g w a s=>?_;obtain⟨_,r1⟩:=s.evo he m1 hx;obtain⟨_,r2⟩:=s.evo he m2 hy;obtain⟨vs,us,e1,e2,hr,hg⟩:=run hq r1 r2;refine⟨.bool (!q),?_,fun d _=>.p _ _ _ (.b _)⟩;rw[e1,e2]at hr;simp only[execOp,ho,e1,e2,Sem.run_bind,run_eqGuard_agg w _ _ _ _ _ _ hg,Result.andThen_ok,run_neq_struct,hr,Sem.run_pure]
    ·exact hk.elim
   ·exact hk.elim
  ·exact hk.elim
 ·exact hk.elim
end
end Go.AM
