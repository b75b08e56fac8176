/- Part of a machine over plain values. No conditions. -/
import Derived.Test.YtdmopjgjhfhfdaaGreatDoorAMOps
import Derived.Laws.StructEq
import Derived.ChangeKeysEq
namespace Go.AM
section
variable {P:Program}
theorem kdT_spec {t:Nat} {k:KD} (h:kdT P t=some k):∃d i,P.underlying t=some d∧P.info? t=some i∧kdD d=some k:=by
 unfold kdT at h;split at h<;>(try (cases h;done))
 all_goals (rename_i i h1 h2;cases h;exact⟨_,i,h1,h2,rfl⟩)
theorem run_part_flat {t:Nat} {k:KD} (h:kdT P t=some k) {cs:Array Value} {off:Nat} {v:Value} (hv:cs[off]?=some v) (w:World):(part t cs off).run P w=.ok v w:=by
 obtain⟨d,i,h1,h2,h3⟩:=kdT_spec h
 have:(isAgg t).run P w=.ok false w:=by
  simp only[isAgg,Sem.run_bind,run_underlying h1,Result.andThen_ok]
  cases d<;>simp[kdD]at h3<;>rfl
 simp only[part,Sem.run_bind,this,Result.andThen_ok,hv];rfl
theorem run_flat1 {M:Mm} {t:Nat} {k:KD} (h:kdT P t=some k) {v u:Value} {x y:PV} {q:Bool} (r1:PRel M v x) (r2:PRel M u y) (hq:flatEq1 k x y=some q) (d:Nat) (w:World):
 (Op.equalIn (d+1) t v u).run P w=.ok q w:=by
 obtain⟨de,i,h1,h2,h3⟩:=kdT_spec h;unfold flatEq1 at hq;split at hq
 ·rename_i k0 k1 a k2 b
  split at hq
  ·rename_i hk
   have hk:=of_decide_eq_true hk;subst hk;cases hq
   cases r1;cases r2
   cases de<;>simp[kdD]at h3
   exact run_equalIn_int w d t _ _ a b h1
  ·cases hq
 ·cases hq;cases r1;cases r2
  cases de<;>simp[kdD]at h3
  exact run_equalIn_bool' w d t _ _ h1
 ·cases hq;cases r1;cases r2
  cases de<;>simp[kdD]at h3
  exact run_equalIn_string w d t _ _ h1
 ·cases hq
theorem run_eqFields_flat {M:Mm} (d:Nat) (w:World) (vs us:Array Value):∀(fs:List Field) (ks:List KD) (n:Nat) (xs ys:List PV) (q:Bool),flatFields P n fs ks=true→flatEq ks xs ys=some q→
 (∀(j:Nat) (x:PV),xs[j]?=some x→∃v,vs[n+j]?=some v∧PRel M v x)→(∀(j:Nat) (y:PV),ys[j]?=some y→∃v,us[n+j]?=some v∧PRel M v y)→
 (Op.eqFields (d+1) vs us fs).run P w=.ok q w
 | [],[],n,xs,ys,q,_,hq,_,_=>by
   cases xs<;>cases ys<;>simp[flatEq]at hq
   subst hq;simp[Op.eqFields]
 |f::fs,k::ks,n,xs,ys,q,hf,hq,h1,h2=>by
  cases xs with
  |nil=>simp[flatEq]at hq
  |cons x xs=>
   cases ys with
   |nil=>simp[flatEq]at hq
   |cons y ys=>
    simp only[flatFields,Bool.and_eq_true,bne_iff_ne,ne_eq,beq_iff_eq]at hf;obtain⟨⟨⟨⟨f1,f2⟩,f3⟩,f4⟩,f5⟩:=hf;have f1:=Nat.eq_of_beq_eq_true f1;simp only[flatEq]at hq;split at hq
    ·rename_i q1 hq1
     split at hq
     ·rename_i q2 hq2
      cases hq;obtain⟨v,hv,rv⟩:=h1 0 x rfl;obtain⟨u,hu,ru⟩:=h2 0 y rfl;have ih:=run_eqFields_flat d w vs us fs ks (n+1) xs ys q2 f5 hq2 (fun j x hx=>by have:=h1 (j+1) x (by simpa using hx);rwa [show n+(j+1)=n+1+j by omega]at this) (fun j x hx=>by have:=h2 (j+1) x (by simpa using hx);rwa [show n+(j+1)=n+1+j by omega]at this);have p1:=run_part_flat f3 (cs:=vs) (off:=f.offset) (v:=v) (by rw[f1];simpa using hv) w;have p2:=run_part_flat f3 (cs:=us) (off:=f.offset) (v:=u) (by rw[f1];simpa using hu) w;have p3:=run_flat1 f3 rv ru hq1 d w;simp only[Op.eqFields,f2,ne_eq,not_false_iff,if_true,Sem.run_bind,p1,p2,p3,Result.andThen_ok];cases q1
      ·simp
      ·simpa using ih
     ·cases hq
    ·cases hq
 | [],_::_,_,_,_,_,hf,_,_,_=>by simp[flatFields]at hf
 |_::_,[],_,_,_,_,hf,_,_,_=>by simp[flatFields]at hf
theorem run_eqItems_flat {M:Mm} (d:Nat) (w:World) (el:Nat) (vs us:Array Value):∀(m n:Nat) (ks:List KD) (xs ys:List PV) (q:Bool),ks.length=m→(∀k∈ks,kdT P el=some k)→flatEq ks xs ys=some q→
 (∀(j:Nat) (x:PV),xs[j]?=some x→∃v,vs[n+j]?=some v∧PRel M v x)→(∀(j:Nat) (y:PV),ys[j]?=some y→∃v,us[n+j]?=some v∧PRel M v y)→
 (Op.eqItems (d+1) el 1 vs us (List.range' n m)).run P w=.ok q w
 |0,n,ks,xs,ys,q,hl,_,hq,_,_=>by
  cases ks with
  |cons k ks=>simp at hl
  |nil=>cases xs<;>cases ys<;>simp[flatEq]at hq;subst hq;simp[Op.eqItems]
 |m+1,n,ks,xs,ys,q,hl,hk,hq,h1,h2=>by
  cases ks with
  |nil=>simp at hl
  |cons k ks=>
   cases xs with
   |nil=>simp[flatEq]at hq
   |cons x xs=>
    cases ys with
    |nil=>simp[flatEq]at hq
    |cons y ys=>
     simp only[flatEq]at hq;split at hq
     ·rename_i q1 hq1
      split at hq
      ·rename_i q2 hq2
       cases hq;obtain⟨v,hv,rv⟩:=h1 0 x rfl;obtain⟨u,hu,ru⟩:=h2 0 y rfl;have ih:=run_eqItems_flat d w el vs us m (n+1) ks xs ys q2 (by simpa using hl) (fun k hk'=>hk k (by simp[hk'])) hq2 (fun j x hx=>by have:=h1 (j+1) x (by simpa using hx);rwa [show n+(j+1)=n+1+j by omega]at this) (fun j x hx=>by have:=h2 (j+1) x (by simpa using hx);rwa [show n+(j+1)=n+1+j by omega]at this);have f3:=hk k (by simp);have p1:=run_part_flat f3 (cs:=vs) (off:=n*1) (v:=v) (by simpa using hv) w;have p2:=run_part_flat f3 (cs:=us) (off:=n*1) (v:=u) (by simpa using hu) w;have p3:=run_flat1 f3 rv ru hq1 d w;simp only[List.range'_succ,Op.eqItems,Sem.run_bind,p1,p2,p3,Result.andThen_ok];cases q1
       ·simp
       ·simpa using ih
      ·cases hq
     ·cases hq
theorem run_equal_flat {M:Mm} {t:Nat} {ks:List KD} (hne:ks≠[]) (h:eqOK P t ks=true) {vs us:List Value} {xs ys:List PV} (r1:PRel M (.agg vs.toArray) (.agg xs)) (r2:PRel M (.agg us.toArray) (.agg ys)) {q:Bool} (hq:flatEq ks xs ys=some q) (w:World):
 (Op.equalIn 10000 t (.agg vs.toArray) (.agg us.toArray)).run P w=.ok q w∧P.eqGuardType P.depth t=false:=by
 have key:∀{vs:List Value} {xs:List PV},PRel M (.agg vs.toArray) (.agg xs)→∀(j:Nat) (x:PV),xs[j]?=some x→∃v,vs.toArray[0+j]?=some v∧PRel M v x:=by
  intro vs xs r j x hx;generalize hv:Value.agg vs.toArray=v0 at r
  cases r with
  |agg vs' _ hl _ hxx=>
   simp only[Value.agg.injEq]at hv;have hv:vs=vs':=by simpa using congrArg Array.toList hv
   subst hv;have hj:j<vs.length:=by rw[hl];exact(List.getElem?_eq_some_iff.1 hx).1
   exact⟨vs[j],by simp[hj],hxx j vs[j] x (by simp[hj]) hx⟩
 unfold eqOK at h;simp only[Bool.and_eq_true,Bool.not_eq_true']at h;obtain⟨hg,h⟩:=h;refine⟨?_,hg⟩;split at h
 ·rename_i fs hu
  simp only[Bool.and_eq_true,Bool.not_eq_true']at h;obtain⟨h1,h2⟩:=h;have hfs:P.fieldsOf t=fs:=by simp[Program.fieldsOf,hu]
  rw[run_equalIn_struct w 9999 t _ _ (by rw[hfs];exact hu) h1,hfs];exact run_eqFields_flat 9998 w _ _ fs.toList ks 0 xs ys q h2 hq (key r1) (key r2)
 ·rename_i m el hu
  simp only[Bool.and_eq_true,List.all_eq_true,beq_iff_eq]at h;obtain⟨⟨h1,h2⟩,h3⟩:=h;have h1:=Nat.eq_of_beq_eq_true h1;have h2:=Nat.eq_of_beq_eq_true h2
  cases ks with
  |nil=>exact absurd rfl hne
  |cons k ks=>
   obtain⟨de,i,q1,q2,q3⟩:=kdT_spec (h3 k (by simp));rw[run_equalIn_array w 9999 _ _ hu q2,h1,List.range_eq_range'];exact run_eqItems_flat 9998 w el _ _ m 0 (k::ks) xs ys q h2 h3 hq (key r1) (key r2)
 ·cases h
end
end Go.AM
