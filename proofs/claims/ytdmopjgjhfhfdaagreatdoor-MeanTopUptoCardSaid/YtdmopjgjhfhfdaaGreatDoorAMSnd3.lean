/- Part of a machine over plain values. No conditions. -/
import Derived.Test.YtdmopjgjhfhfdaaGreatDoorAMNew
import Derived.Laws.StructEq
import Derived.ChangeKeysEq
import Derived.Laws.BytesString
import Derived.MapKept
set_option linter.all false
set_option maxRecDepth 100000
namespace Go.AM
section
variable {P:Program}
theorem zE {t:Nat} {k:KD} (h:Mx P t=some k):∃d i,P.underlying t=some d/\P.info? t=some i/\Mf d=some k:=by
 unfold Mx at h;split at h<;>(try (cases h;done))
 all_goals (rename_i i h1 h2;cases h;exact⟨_,i,h1,h2,rfl⟩)
theorem jU {t:Nat} {k:KD} (h:Mx P t=some k) {cs:Array Value} {off:Nat} {v:Value} (hv:cs[off]?=some v) (w:World):(part t cs off).run P w=.ok v w:=by
 obtain⟨d,i,h1,h2,h3⟩:=zE h
 have:(isAgg t).run P w=.ok false w:=by
  simp only[isAgg,Sem.run_bind,run_underlying h1,Result.andThen_ok]
  cases d<;>simp[Mf]at h3<;>rfl
 simp only[part,Sem.run_bind,this,Result.andThen_ok,hv];rfl
theorem BD {M:Mm} {t:Nat} {k:KD} (h:Mx P t=some k) {v u:Value} {x y:PV} {q:Bool} (r1:bq M v x) (r2:bq M u y) (hq:B5 k x y=some q) (d:Nat) (w:World):
 (Op.equalIn (d+1) t v u).run P w=.ok q w:=by
 obtain⟨de,i,h1,h2,h3⟩:=zE h;unfold B5 at hq;split at hq
 ·rename_i k0 k1 a k2 b
  split at hq
  ·rename_i hk
   have hk:=of_decide_eq_true hk;subst hk;cases hq
   cases r1;cases r2
   cases de<;>simp[Mf]at h3
   exact run_equalIn_int w d t _ _ a b h1
  ·cases hq
 ·cases hq;cases r1;cases r2
  cases de<;>simp[Mf]at h3
  exact run_equalIn_bool' w d t _ _ h1
 ·cases hq;cases r1;cases r2
  cases de<;>simp[Mf]at h3
  exact run_equalIn_string w d t _ _ h1
 ·cases hq
theorem mJ {M:Mm} (d:Nat) (w:World) (vs us:Array Value):∀(fs:List Field) (ks:List KD) (n:Nat) (xs ys:List PV) (q:Bool),jD P n fs ks=true->iM ks xs ys=some q->
 (∀(j:Nat) (x:PV),xs[j]?=some x->∃v,vs[n+j]?=some v/\bq M v x)->(∀(j:Nat) (y:PV),ys[j]?=some y->∃v,us[n+j]?=some v/\bq M v y)->
 (Op.eqFields (d+1) vs us fs).run P w=.ok q w
 | [],[],n,xs,ys,q,_,hq,_,_=>by
   cases xs<;>cases ys<;>simp[iM]at hq
   subst hq;simp[Op.eqFields]
 |f::fs,k::ks,n,xs,ys,q,hf,hq,h1,h2=>by
  cases xs with
  |nil=>simp[iM]at hq
  |cons x xs=>
   cases ys with
   |nil=>simp[iM]at hq
   |cons y ys=>
    simp only[jD,Bool.and_eq_true,bne_iff_ne,ne_eq,beq_iff_eq]at hf;obtain⟨⟨⟨⟨f1,f2⟩,f3⟩,f4⟩,f5⟩:=hf;have f1:=Nat.eq_of_beq_eq_true f1;simp only[iM]at hq;split at hq
    ·rename_i q1 hq1
     split at hq
     ·rename_i q2 hq2
      cases hq;obtain⟨v,hv,rv⟩:=h1 0 x rfl;obtain⟨u,hu,ru⟩:=h2 0 y rfl;have ih:=mJ d w vs us fs ks (n+1) xs ys q2 f5 hq2 (fun j x hx=>by have:=h1 (j+1) x (by simpa using hx);rwa [show n+(j+1)=n+1+j by omega]at this) (fun j x hx=>by have:=h2 (j+1) x (by simpa using hx);rwa [show n+(j+1)=n+1+j by omega]at this);have p1:=jU f3 (cs:=vs) (off:=f.offset) (v:=v) (by rw[f1];simpa using hv) w;have p2:=jU f3 (cs:=us) (off:=f.offset) (v:=u) (by rw[f1];simpa using hu) w;have p3:=BD f3 rv ru hq1 d w;simp only[Op.eqFields,f2,ne_eq,not_false_iff,if_true,Sem.run_bind,p1,p2,p3,Result.andThen_ok];cases q1
      ·simp
      ·simpa using ih
     ·cases hq
    ·cases hq
 | [],_::_,_,_,_,_,hf,_,_,_=>by simp[jD]at hf
 |_::_,[],_,_,_,_,hf,_,_,_=>by simp[jD]at hf
theorem nV {M:Mm} (d:Nat) (w:World) (el:Nat) (vs us:Array Value):∀(m n:Nat) (ks:List KD) (xs ys:List PV) (q:Bool),ks.length=m->(∀k∈ks,Mx P el=some k)->iM ks xs ys=some q->
 (∀(j:Nat) (x:PV),xs[j]?=some x->∃v,vs[n+j]?=some v/\bq M v x)->(∀(j:Nat) (y:PV),ys[j]?=some y->∃v,us[n+j]?=some v/\bq M v y)->
 (Op.eqItems (d+1) el 1 vs us (List.range' n m)).run P w=.ok q w
 |0,n,ks,xs,ys,q,hl,_,hq,_,_=>by
  cases ks with
  |cons k ks=>simp at hl
  |nil=>cases xs<;>cases ys<;>simp[iM]at hq;subst hq;simp[Op.eqItems]
 |m+1,n,ks,xs,ys,q,hl,hk,hq,h1,h2=>by
  cases ks with
  |nil=>simp at hl
  |cons k ks=>
   cases xs with
   |nil=>simp[iM]at hq
   |cons x xs=>
    cases ys with
    |nil=>simp[iM]at hq
    |cons y ys=>
     simp only[iM]at hq;split at hq
     ·rename_i q1 hq1
      split at hq
      ·rename_i q2 hq2
       cases hq;obtain⟨v,hv,rv⟩:=h1 0 x rfl;obtain⟨u,hu,ru⟩:=h2 0 y rfl;have ih:=nV d w el vs us m (n+1) ks xs ys q2 (by simpa using hl) (fun k hk'=>hk k (by simp[hk'])) hq2 (fun j x hx=>by have:=h1 (j+1) x (by simpa using hx);rwa [show n+(j+1)=n+1+j by omega]at this) (fun j x hx=>by have:=h2 (j+1) x (by simpa using hx);rwa [show n+(j+1)=n+1+j by omega]at this);have f3:=hk k (by simp);have p1:=jU f3 (cs:=vs) (off:=n*1) (v:=v) (by simpa using hv) w;have p2:=jU f3 (cs:=us) (off:=n*1) (v:=u) (by simpa using hu) w;have p3:=BD f3 rv ru hq1 d w;simp only[List.range'_succ,Op.eqItems,Sem.run_bind,p1,p2,p3,Result.andThen_ok];cases q1
       ·simp
       ·simpa using ih
      ·cases hq
     ·cases hq
theorem zH {M:Mm} {t:Nat} {ks:List KD} (hne:ks≠[]) (h:LX P t ks=true) {vs us:List Value} {xs ys:List PV} (r1:bq M (.agg vs.toArray) (.agg xs)) (r2:bq M (.agg us.toArray) (.agg ys)) {q:Bool} (hq:iM ks xs ys=some q) (w:World):
 (Op.equalIn 10000 t (.agg vs.toArray) (.agg us.toArray)).run P w=.ok q w/\P.eqGuardType P.depth t=false:=by
 have key:∀{vs:List Value} {xs:List PV},bq M (.agg vs.toArray) (.agg xs)->∀(j:Nat) (x:PV),xs[j]?=some x->∃v,vs.toArray[0+j]?=some v/\bq M v x:=by
  intro vs xs r j x hx;generalize hv:Value.agg vs.toArray=v0 at r
  cases r with
  |agg vs' _ hl _ hxx=>
   simp only[Value.agg.injEq]at hv;have hv:vs=vs':=by simpa using congrArg Array.toList hv
   subst hv;have hj:j<vs.length:=by rw[hl];exact(List.getElem?_eq_some_iff.1 hx).1
   exact⟨vs[j],by simp[hj],hxx j vs[j] x (by simp[hj]) hx⟩
 unfold LX at h;simp only[Bool.and_eq_true,Bool.not_eq_true']at h;obtain⟨hg,h⟩:=h;refine⟨?_,hg⟩;split at h
 ·rename_i fs hu
  simp only[Bool.and_eq_true,Bool.not_eq_true']at h;obtain⟨h1,h2⟩:=h;have hfs:P.fieldsOf t=fs:=by simp[Program.fieldsOf,hu]
  rw[run_equalIn_struct w 9999 t _ _ (by rw[hfs];exact hu) h1,hfs];exact mJ 9998 w _ _ fs.toList ks 0 xs ys q h2 hq (key r1) (key r2)
 ·rename_i m el hu
  simp only[Bool.and_eq_true,List.all_eq_true,beq_iff_eq]at h;obtain⟨⟨h1,h2⟩,h3⟩:=h;have h1:=Nat.eq_of_beq_eq_true h1;have h2:=Nat.eq_of_beq_eq_true h2
  cases ks with
  |nil=>exact absurd rfl hne
  |cons k ks=>
   obtain⟨de,i,q1,q2,q3⟩:=zE (h3 k (by simp));rw[run_equalIn_array w 9999 _ _ hu q2,h1,List.range_eq_range'];exact nV 9998 w el _ _ m 0 (k::ks) xs ys q h2 h3 hq (key r1) (key r2)
 ·cases h
end
section
variable {P:Program} {ty:Nat->Option TI} {n:Nat} {o:Oper} {e:Env} {h:Heap} {K:AK}
theorem vZ (hd:∀d,o.dst=some d->d<n) {t:Nat} (ho:o.op=.move (.tmp t)\/o.op=.assign (.tmp t)) {mv:Nat->Bool} (hk:A1 o e t mv K):∃f,K f/\cJ P n o e h f:=by
 have hrun:∀(a:Act) (w:World),(execOp a.eval o).run P w=.ok (.value (a.eval (.tmp t))) w:=by
  intro a w;rcases ho with ho|ho<;>simp[execOp,ho]
 have hsl:t∈slotsOf o:=by rcases ho with ho|ho<;>simp[slotsOf,ho,Op.operands]
 unfold A1 at hk;split at hk
 ·rename_i sz xs hso
  split at hk
  ·rename_i d hdd
   split at hk
   · -- with the right
    refine⟨_,hk,fun e' h' he _ g w a s=>Oper.cp (hrun a w) ?_⟩;have hv:=s.env t;rw[he t hsl,hso]at hv;generalize hval:a.tmps.getD t undef=v at hv;have hval':a.eval (.tmp t)=v:=hval;simp only[hval',hdd,List.reverse_cons,List.reverse_nil,List.nil_append,List.cons_append];have hpure:aH g w (aE h') none v (.p (.sl sz xs)):=hv.copy (ow':=none)
    cases hv with
    |full _ ad _ _ hz hp=>
     refine⟨g,?_,Ext.refl _ _⟩;have s1:=s.put (hd d hdd) (aH.full (some (.slot d)) ad sz xs hz hp);refine⟨s1.defers,s1.size,fun i=>?_,s1.heap,s1.bnd⟩
     by_cases hi:t=i
     ·subst hi;rw[bA]
      have:=s1.env t
      by_cases hdt:d=t
      ·subst hdt;rw[bA]at this;exact this.copy
      ·rw[bO hdt,he t hsl,hso]at this;exact this.copy
     ·rw[bO hi];exact s1.env i
    |own _ ad cap _ _ cs E hz hp hw hpre hb hs=>
     refine⟨g.relabel ad.block (.slot d),?_,Ext.relabel hw⟩;refine⟨s.defers,by simp[Act.put,s.size],fun i=>?_,s.heap.relabel hw,fun b o' hb'=>?_⟩
     ·by_cases hi:t=i
      ·subst hi
       rw[bA]
       by_cases hdt:d=t
       ·subst hdt
        have:(a.put (some d) (.slice (some ad) xs.length cap)).tmps.getD d undef=.slice (some ad) xs.length cap:=by simp[Act.put,s.size,hd d hdd]
        rw[this];exact .p _ _ _ hp
       ·have:(a.put (some d) (.slice (some ad) xs.length cap)).tmps.getD t undef=.slice (some ad) xs.length cap:=by
         rw[<-hval];simp[Act.put,Array.getD_eq_getD_getElem?,hdt]
        rw[this];exact .p _ _ _ hp
      ·rw[bO hi]
       by_cases hdi:d=i
       ·subst hdi
        rw[bA];have:(a.put (some d) (.slice (some ad) xs.length cap)).tmps.getD d undef=.slice (some ad) xs.length cap:=by simp[Act.put,s.size,hd d hdd]
        rw[this];exact .own (.slot d) ad cap sz xs cs E hz hp (by simp[Gh.relabel]) hpre hb hs
       ·rw[bO hdi]
        have:(a.put (some d) (.slice (some ad) xs.length cap)).tmps.getD i undef=a.tmps.getD i undef:=by simp[Act.put,Array.getD_eq_getD_getElem?,hdi]
        rw[this];exact(s.env i).relabel hw (by simp;exact fun e=>hi e.symm)
     ·by_cases hbb:b=ad.block
      ·subst hbb;exact s.bnd _ _ hw
      ·simp only[Gh.relabel,if_neg hbb]at hb';exact s.bnd _ _ hb'
   ·refine⟨_,hk,fun e' h' he _ g w a s=>Oper.cp (hrun a w) ⟨g,?_,Ext.refl _ _⟩⟩
    have hv:=s.env t;rw[he t hsl,hso]at hv;rw[hdd];exact s.put (hd d hdd) hv.copy
  ·exact hk.elim
 ·rename_i hns
  refine aI hd hk fun e' h' he g w a s=>⟨_,hrun a w,fun d _=>?_⟩
  have:=s.env t;rw[he t hsl]at this;exact this.bW (fun sz xs e=>hns sz xs e)
theorem rR (hd:∀d,o.dst=some d->d<n) {x:Operand} (ho:o.op=.move x\/o.op=.assign x) (hx:∀t,x≠.tmp t) (hk:ret o (ev e x) K):∃f,K f/\cJ P n o e h f:=by
 refine aI hd hk fun e' h' he g w a s=>⟨a.eval x,by rcases ho with ho|ho<;>simp[execOp,ho],fun d _=>?_⟩
 have hm:x∈o.op.operands:=by rcases ho with ho|ho<;>simp[ho,Op.operands]
 obtain⟨ow,hr⟩:=s.ev x;rw[DA he hm]at hr;refine hr.bW fun sz xs e=>?_
 cases x with
 |tmp t=>exact hx t rfl
 |const v=>exact(sM e).elim
 |func f=>simp[ev]at e
 |global b=>simp[ev]at e
theorem aH.bool {g:Gh} {w:World} {dom:Nat->Prop} {ow:Option bg} {v:Value} {x:Bool} (r:aH g w dom ow v (.p (.b x))):v=.bool x:=by
 cases r with|p _ _ _ h=>cases h;rfl
theorem aH.int {g:Gh} {w:World} {dom:Nat->Prop} {ow:Option bg} {v:Value} {k:IntKind} {x:Int} (r:aH g w dom ow v (.p (.i k x))):v=.int k x:=by
 cases r with|p _ _ _ h=>cases h;rfl
theorem aH.str {g:Gh} {w:World} {dom:Nat->Prop} {ow:Option bg} {v:Value} {x:ByteArray} (r:aH g w dom ow v (.p (.s x))):v=.string x:=by
 cases r with|p _ _ _ h=>cases h;rfl
theorem cw.cR {g:Gh} {w:World} {n:Nat} {a:Act} {e':Env} {h':Heap} (s:cw g w n a e' h') (he:∀t∈slotsOf o,aL e' t=aL e t) {x:Operand} (hx:x∈o.op.operands) {y:AV} (hy:Go.AM.ev e x=y):
 ∃ow,aH g w (aE h') ow (a.eval x) y:=by
 obtain⟨ow,hr⟩:=s.ev x;rw[DA he hx,hy]at hr;exact⟨ow,hr⟩
theorem Dk (hd:∀d,o.dst=some d->d<n) {c x y:Operand} (ho:o.op=.pick c x y) {gd:Bool} (hc:ev e c=.p (.b gd)) (hk:mq gd (ret o (ev e x).copy K) (ret o (ev e y).copy K)):∃f,K f/\cJ P n o e h f:=by
 have m1:c∈o.op.operands:=by simp[ho,Op.operands]
 have m2:x∈o.op.operands:=by simp[ho,Op.operands]
 have m3:y∈o.op.operands:=by simp[ho,Op.operands]
 cases gd with
 |true=>
  refine aI hd hk fun e' h' he g w a s=>?_;obtain⟨_,r1⟩:=s.cR he m1 hc;obtain⟨_,r2⟩:=s.cR he m2 rfl;exact⟨a.eval x,by simp[execOp,ho,r1.bool,asBool],fun d _=>r2.copy⟩
 |false=>
  refine aI hd hk fun e' h' he g w a s=>?_;obtain⟨_,r1⟩:=s.cR he m1 hc;obtain⟨_,r2⟩:=s.cR he m3 rfl;exact⟨a.eval y,by simp[execOp,ho,r1.bool,asBool],fun d _=>r2.copy⟩
theorem cC {op:BinOp} {t:TypeId} {x y:Operand} {v u:Value} {w:World} (h:(∀a,v≠.agg a)/\v≠.nilIface):(eqGuard op t x y v u).run P w=.ok () w:=by
 cases v with
 |agg a=>exact absurd rfl (h.1 a)
 |nilIface=>exact absurd rfl h.2
 |_=>cases op<;>rfl
theorem run_equalIn_bool (d:Nat) {t:TypeId} (h:P.underlying t=some .bool) (a b:Bool) (w:World):(Op.equalIn (d+1) t (.bool a) (.bool b)).run P w=.ok (a==b) w:=by
 simp only[Op.equalIn,Sem.run_bind,run_underlying h,Result.andThen_ok,Sem.run_pure]
theorem bq.Oe {M:Mm} {a:Option Addr} {m c sz:Nat} {y:PV} {ys:List PV} (r:bq M (.slice a m c) (.sl sz (y::ys))):a.isNone=false:=by
 generalize hv:Value.slice a m c=v at r;generalize hx:PV.sl sz (y::ys)=x at r
 cases r with
 |sl b cap sz' xs f=>cases hv;rfl
 |nil=>cases hx
 |_=>first|(cases hx;done)|(cases hv;done)
theorem By {g:Gh} {w:World} {dom:Nat->Prop} {ow:Option bg} {v:Value} {x:AV} {b:Bool} (r:aH g w dom ow v x) (h:G8 x=some b):∃a n c,v=.slice a n c/\a.isNone=b:=by
 unfold G8 at h;split at h
 ·cases h;cases r;exact⟨none,0,0,rfl,rfl⟩
 ·cases h;cases r with|es _ a cap sz hs=>exact⟨some a,0,cap,rfl,rfl⟩
 ·cases h
  cases r with
  |p _ _ _ hp=>cases hp with|sl a cap _ _ f=>exact⟨some a,_,cap,rfl,rfl⟩
 ·cases h
  cases r with
  |full _ a _ _ hz hp=>exact⟨a,_,_,rfl,hp.Oe⟩
  |own _ a cap _ _ cs E hz hp=>exact⟨some a,_,cap,rfl,rfl⟩
 ·cases h
theorem wZ (d:Nat) {t el:TypeId} (h:P.underlying t=some (.slice el)) (a:Option Addr) (n c:Nat) (w:World):(Op.equalIn (d+1) t (.slice a n c) (.slice none 0 0)).run P w=.ok a.isNone w:=by
 cases a<;>simp[Op.equalIn,run_underlying h]
theorem om (hty:bB P ty) {t:Nat} (ht:eF ty t=true) {a:Option Addr} {n c:Nat} {w:World}:(Op.equal t (.slice a n c) (.slice none 0 0)).run P w=.ok a.isNone w:=by
 unfold eF at ht;split at ht
 ·rename_i i hi
  split at ht
  ·rename_i el hde
   have hu:=(hty t i hi).und;rw[hde]at hu;exact wZ 9999 hu a n c w
  ·cases ht
 ·cases ht
theorem Fo (hty:bB P ty) (hd:∀d,o.dst=some d->d<n) {op:BinOp} {t t':TypeId} {x y:Operand} (ho:o.op=.binOp op t x y t') (hk:KW ty o op t (ev e x) (ev e y) K):∃f,K f/\cJ P n o e h f:=by
 have m1:x∈o.op.operands:=by simp[ho,Op.operands]
 have m2:y∈o.op.operands:=by simp[ho,Op.operands]
 unfold KW at hk;split at hk
 ·rename_i k a1 k' b1 hx hy
  split at hk
  · -- rem
   obtain⟨⟨rfl,hb⟩,hk⟩:=hk;refine aI hd hk fun e' h' he g w a s=>?_;obtain⟨_,r1⟩:=s.cR he m1 hx;obtain⟨_,r2⟩:=s.cR he m2 hy;refine⟨.int k (a1.tmod b1),?_,fun d _=>.p _ _ _ (.i _ _)⟩;simp[execOp,ho,r1.int,r2.int,cC,binOp,Op.intDiv,hb]
  ·obtain⟨⟨rfl,hb⟩,hk⟩:=hk
   refine aI hd hk fun e' h' he g w a s=>?_;obtain⟨_,r1⟩:=s.cR he m1 hx;obtain⟨_,r2⟩:=s.cR he m2 hy;refine⟨.int k (k.wrap (a1.tdiv b1)),?_,fun d _=>.p _ _ _ (.i _ _)⟩;simp[execOp,ho,r1.int,r2.int,cC,binOp,Op.intDiv,hb]
  ·rename_i op' hn1 hn2
   split at hk
   ·rename_i v hv
    split at hk
    ·rename_i hkk
     have hkk:k=k':=of_decide_eq_true hkk;subst hkk;refine aI hd hk fun e' h' he g w a s=>?_;obtain⟨_,r1⟩:=s.cR he m1 hx;obtain⟨_,r2⟩:=s.cR he m2 hy
     cases op<;>simp only[Oa,Option.some.injEq,reduceCtorEq]at hv<;>subst hv <;>
      first
      |(refine⟨.int k _,?_,fun d _=>.p _ _ _ (.i _ _)⟩
        simp[execOp,ho,r1.int,r2.int,cC,binOp,Op.intArith];done)
      |(refine⟨.int k _,?_,fun d _=>.p _ _ _ (.i _ _)⟩
        simp only[execOp,ho,r1.int,r2.int,Sem.run_bind,cC (v:=.int k a1) ⟨fun _=>by simp,by simp⟩,Result.andThen_ok,binOp,Op.intBits,L3,ne_eq,not_true_eq_false,if_false,Sem.run_pure];done)
      |(refine⟨.bool _,?_,fun d _=>.p _ _ _ (.b _)⟩
        simp[execOp,ho,r1.int,r2.int,cC,binOp,Op.intCmp];done)
    ·exact hk.elim
   ·exact hk.elim
 ·rename_i a1 b1 hx hy
  split at hk
  ·obtain⟨hb,hk⟩:=hk
   refine aI hd hk fun e' h' he g w a s=>?_;obtain⟨_,r1⟩:=s.cR he m1 hx;obtain⟨_,r2⟩:=s.cR he m2 hy;refine⟨.string (a1++b1),?_,fun d _=>.p _ _ _ (.s _)⟩
   have hno:¬((a1.size+b1.size:Nat):Int)>IntKind.i64.max:=by
    have:IntKind.i64.max=9223372036854775807:=by decide
    rw[this];omega
   simp only[execOp,ho,r1.str,r2.str,Sem.run_bind,cC (v:=.string a1) ⟨fun _=>by simp,by simp⟩,Result.andThen_ok,binOp,Op.stringOp,Sem.run_pure,if_neg hno]
  ·rename_i op' hn1
   split at hk
   ·rename_i v hv
    refine aI hd hk fun e' h' he g w a s=>?_;obtain⟨_,r1⟩:=s.cR he m1 hx;obtain⟨_,r2⟩:=s.cR he m2 hy
    cases op<;>simp only[OJ,Option.some.injEq,reduceCtorEq]at hv<;>subst hv <;>
     (refine⟨.bool _,?_,fun d _=>.p _ _ _ (.b _)⟩
      simp only[execOp,ho,r1.str,r2.str,Sem.run_bind,cC (v:=.string a1) ⟨fun _=>by simp,by simp⟩,Result.andThen_ok,binOp,Op.stringOp,Sem.run_pure])
   ·exact hk.elim
 ·rename_i hy
  split at hk
  ·rename_i b hb hst
   refine aI hd hk fun e' h' he g w a s=>?_;obtain⟨_,r1⟩:=s.cR he m1 rfl;obtain⟨_,r2⟩:=s.cR he m2 hy;obtain⟨ad,n1,n2,hv,hbe⟩:=By r1 hb;refine⟨.bool b,?_,fun d _=>.p _ _ _ (.b _)⟩;have hyv:a.eval y=.slice none 0 0:=by generalize a.eval y=u at r2;cases r2;rfl
   simp[execOp,ho,hv,hyv,cC,binOp,om hty hst,hbe]
  ·rename_i b hb hst
   refine aI hd hk fun e' h' he g w a s=>?_;obtain⟨_,r1⟩:=s.cR he m1 rfl;obtain⟨_,r2⟩:=s.cR he m2 hy;obtain⟨ad,n1,n2,hv,hbe⟩:=By r1 hb;refine⟨.bool (!b),?_,fun d _=>.p _ _ _ (.b _)⟩;have hyv:a.eval y=.slice none 0 0:=by generalize a.eval y=u at r2;cases r2;rfl
   simp[execOp,ho,hv,hyv,cC,binOp,om hty hst,hbe]
  ·exact hk.elim
 ·rename_i a1 b1 hx hy
  have hb:tC ty t=true->P.underlying t=some .bool:=by
   intro hb;unfold tC at hb;split at hb
   ·rename_i i hi
    split at hb
    ·rename_i hdd;rw[<-hdd];exact(hty t i hi).und
    ·cases hb
   ·cases hb
  have heq:tC ty t=true->∀w,(Op.equal t (.bool a1) (.bool b1)).run P w=.ok (a1==b1) w:=by
   intro h1 w;exact run_equalIn_bool 9999 (hb h1) a1 b1 w
  split at hk
  ·rename_i hbt
   refine aI hd hk fun e' h' he g w a s=>?_;obtain⟨_,r1⟩:=s.cR he m1 hx;obtain⟨_,r2⟩:=s.cR he m2 hy;refine⟨.bool (a1==b1),?_,fun d _=>.p _ _ _ (.b _)⟩;simp[execOp,ho,r1.bool,r2.bool,cC,binOp,heq hbt]
  ·rename_i hbt
   refine aI hd hk fun e' h' he g w a s=>?_;obtain⟨_,r1⟩:=s.cR he m1 hx;obtain⟨_,r2⟩:=s.cR he m2 hy;refine⟨.bool (!(a1==b1)),?_,fun d _=>.p _ _ _ (.b _)⟩;simp[execOp,ho,r1.bool,r2.bool,cC,binOp,heq hbt]
  ·exact hk.elim
 ·rename_i xs ys hx hy
  split at hk
  ·rename_i i hi
   split at hk
   ·rename_i kd ks hks
    have he:LX P t (kd::ks)=true:=by
     rcases (hty t i hi).eqs with q|q
     ·rw[q]at hks;cases hks
     ·rw[hks]at q;exact q
    have run:∀{g:Gh} {w:World} {h':Heap} {v u:Value} {ow ow':Option bg} {q:Bool},iM (kd::ks) xs ys=some q->aH g w (aE h') ow v (.p (.agg xs))->aH g w (aE h') ow' u (.p (.agg ys))->
     ∃vs us,v=.agg vs/\u=.agg us/\(Op.equalIn 10000 t v u).run P w=.ok q w/\P.eqGuardType P.depth t=false:=by
     intro g w h' v u ow ow' q hq r1 r2
     cases r1 with
     |p _ _ _ p1=>
      cases r2 with
      |p _ _ _ p2=>
       cases p1 with
       |agg vs _ hl1 h11 hx1=>
        cases p2 with
        |agg us _ hl2 h12 hx2=>
         obtain⟨a1,a2⟩:=zH (by simp) he (.agg vs xs hl1 h11 hx1) (.agg us ys hl2 h12 hx2) hq w;exact⟨_,_,rfl,rfl,a1,a2⟩
    split at hk
    ·rename_i q hq
     refine aI hd hk fun e' h' he g w a s=>?_;obtain⟨_,r1⟩:=s.cR he m1 hx;obtain⟨_,r2⟩:=s.cR he m2 hy;obtain⟨vs,us,e1,e2,hr,hg⟩:=run hq r1 r2;refine⟨.bool q,?_,fun d _=>.p _ _ _ (.b _)⟩;rw[e1,e2]at hr;simp only[execOp,ho,e1,e2,Sem.run_bind,run_eqGuard_agg w _ _ _ _ _ _ hg,Result.andThen_ok,run_eql_struct,hr,Sem.run_pure]
    ·rename_i q hq
     refine aI hd hk fun e' h' he g w a s=>?_;obtain⟨_,r1⟩:=s.cR he m1 hx;obtain⟨_,r2⟩:=s.cR he m2 hy;obtain⟨vs,us,e1,e2,hr,hg⟩:=run hq r1 r2;refine⟨.bool (!q),?_,fun d _=>.p _ _ _ (.b _)⟩;rw[e1,e2]at hr;simp only[execOp,ho,e1,e2,Sem.run_bind,run_eqGuard_agg w _ _ _ _ _ _ hg,Result.andThen_ok,run_neq_struct,hr,Sem.run_pure]
    ·exact hk.elim
   ·exact hk.elim
  ·exact hk.elim
 ·exact hk.elim
end
section
variable {P:Program} {ty:Nat->Option TI} {n:Nat} {o:Oper} {e:Env} {h:Heap} {K:AK}
theorem Jy (hd:∀d,o.dst=some d->d<n) {op:UnOp} {t:TypeId} {x:Operand} (ho:o.op=.unOp op t x)
 (hk:Pm o op (ev e x) K):∃f,K f/\cJ P n o e h f:=by
 have m1:x∈o.op.operands:=by simp[ho,Op.operands]
 unfold Pm at hk;split at hk
 ·rename_i a1 hx
  refine aI hd hk fun e' h' he g w a s=>?_;obtain⟨_,r1⟩:=s.cR he m1 hx;exact⟨.bool (!a1),by simp[execOp,ho,r1.bool,Op.unary],fun d _=>.p _ _ _ (.b _)⟩
 ·rename_i k a1 hx
  refine aI hd hk fun e' h' he g w a s=>?_;obtain⟨_,r1⟩:=s.cR he m1 hx;exact⟨.int k (k.wrap (0-a1)),by simp[execOp,ho,r1.int,Op.unary,Op.intArith],fun d _=>.p _ _ _ (.i _ _)⟩
 ·exact hk.elim
theorem Es {src dst:TypeId} {d:TypeDesc} {k k':IntKind} {m:Int} (hs:P.underlying src=some d) (hu:P.underlying dst=some (.int k)) (w:World):
 (convert src dst (.int k' m)).run P w=.ok (.int k (k.wrap m)) w:=by
 unfold convert;simp only[Sem.run_bind,run_underlying hs,run_underlying hu,Result.andThen_ok];simp[Conv.intToInt]
theorem Addr.add_plain {b off k:Nat}:(⟨b,off,none⟩:Addr).add k=⟨b,off+k,none⟩:=by
 unfold Addr.add;split
 ·rename_i h;subst h;rfl
 ·rfl
theorem Addr.eK {a:Addr} (h:a.spot=none) (k:Nat):a.add k=⟨a.block,a.off+k,none⟩:=by
 cases a;simp only at h;subst h;exact Addr.add_plain
theorem DB (hty:bB P ty) (hd:∀d,o.dst=some d->d<n) {src dst:TypeId} {x:Operand} (ho:o.op=.convert src dst x)
 (hk:match ty src,ty dst,ev e x with
   |some _,some i,.p (.i _ n)=>match i.desc with
    |.int k=>ret o (.p (.i k (k.wrap n))) K
    |_=>ah "convert"
   |some _,some i,.p (.s x)=>match i.desc with
    |.string=>ret o (.p (.s x)) K
    |_=>ah "convert"
   |some si,some i,v=>xO ty o si i v K
   |_,_,_=>ah "convert"):∃f,K f/\cJ P n o e h f:=by
 have m1:x∈o.op.operands:=by simp[ho,Op.operands]
 split at hk
 ·rename_i j i k' m hs hi hx
  split at hk
  ·rename_i k hdk
   refine aI hd hk fun e' h' he g w a s=>?_;obtain⟨_,r1⟩:=s.cR he m1 hx;refine⟨.int k (k.wrap m),?_,fun d _=>.p _ _ _ (.i _ _)⟩;have hu:=(hty dst i hi).und;rw[hdk]at hu;simp only[execOp,ho,r1.int,Sem.run_bind,Es (hty src j hs).und hu,Result.andThen_ok,Sem.run_pure]
  ·exact hk.elim
 ·rename_i j i y hs hi hx
  split at hk
  ·rename_i hdk
   refine aI hd hk fun e' h' he g w a s=>?_;obtain⟨_,r1⟩:=s.cR he m1 hx;refine⟨.string y,?_,fun d _=>.p _ _ _ (.s _)⟩;have hu:=(hty dst i hi).und;rw[hdk]at hu
   have:(convert src dst (.string y)).run P w=.ok (.string y) w:=by
    unfold convert;simp only[Sem.run_bind,run_underlying (hty src j hs).und,run_underlying hu,Result.andThen_ok];rfl
   simp only[execOp,ho,r1.str,Sem.run_bind,this,Result.andThen_ok,Sem.run_pure]
  ·exact hk.elim
 ·rename_i si i hs hi _ _
  unfold xO at hk;split at hk
  ·rename_i el sz xs hsd hid hpv
   split at hk
   ·rename_i j hsz hel
    split at hk
    ·rename_i hu8
     obtain⟨ns,_,hxs,rfl,hk⟩:=hk;have hsz:=Nat.eq_of_beq_eq_true hsz;subst hsz;refine aI hd hk fun e' h' he g w a s=>?_;obtain⟨_,r1⟩:=s.cR he m1 rfl;have r2:=rz r1 hpv;refine⟨.string (ju ns),?_,fun d _=>.p _ _ _ (.s _)⟩;have u1:=(hty src si hs).und;rw[hsd]at u1;have u2:=(hty dst i hi).und;rw[hid]at u2;have u3:=(hty el j hel).und;rw[hu8]at u3;subst hxs
     have hrun:(convert src dst (a.eval x)).run P w=.ok (.string (ju ns)) w:=by
      generalize hv:a.eval x=v at r2;generalize hq:ns.map (PV.i .u8)=q at r2
      cases r2 with
      |nil=>
       have:ns=[]:=by simpa using hq
       subst this;rw[run_convert_bytes_string w src dst el none 0 0 u1 u3 u2];rfl
      |sl ad cap _ _ f hsp hc hz hm hx=>
       subst hq;rw[run_convert_bytes_string w src dst el (some ad) _ cap u1 u3 u2];refine run_bytesToString w ad _ cap ns ?_
       have key:∀(j:Nat) (v:Value),(ns.map (Value.int .u8))[j]?=some v->w.cell? (ad.add j)=some v:=by
        intro j v hj;rw[List.getElem?_map,Option.map_eq_some_iff]at hj;obtain⟨b,hb,rfl⟩:=hj
        have hpos:cap≠0:=fun q=>by
         have:=(List.getElem?_eq_some_iff.1 hb).1;simp at hc;omega
        have hj1:(ns.map (PV.i .u8))[j]?=some (.i .u8 b):=by rw[List.getElem?_map,hb];rfl
        have h1:=(hm j _ hj1 0 (.i .u8 b) rfl).1;have h2:=hx j _ hj1 0 (.i .u8 b) rfl;generalize f j 0=u at h1 h2;cases h2
        have h3:w.cell? ⟨ad.block,ad.off+j*1+0,none⟩=some (.int .u8 b):=by
         simp only[cO]at h1;split at h1
         ·exact h1
         ·cases h1
        have hadd:ad.add j=⟨ad.block,ad.off+j,none⟩:=by
         have hn:=hsp hpos;clear h1 h3 hm hsp
         cases ad;simp only at hn;subst hn;exact Addr.add_plain
        rw[hadd];simpa using h3
       have:=run_loadCells_list (P:=P) w ad (ns.map (Value.int .u8)) key;simpa using this
     simp only[execOp,ho,Sem.run_bind,hrun,Result.andThen_ok,Sem.run_pure]
    ·exact hk.elim
   ·exact hk.elim
  ·exact hk.elim
 ·exact hk.elim
theorem HS (e:Env):∀(xs:List Operand) (j:Nat),(Hs e xs)[j]?=(xs[j]?).map fun x=>(ev e x).copy
 | [],j=>by simp[Hs]
 |x::r,0=>by simp[Hs]
 |x::r,j+1=>by simp[Hs,HS e r j]
theorem zY (e:Env) (xs:List Operand):(Hs e xs).length=xs.length:=by
 induction xs with
 |nil=>rfl
 |cons x r ih=>simp[Hs,ih]
theorem Eh (hd:∀d,o.dst=some d->d<n) {f:Nat} {first caps:List Operand} (ho:o.op=.makeFunc (.func f) ⟨first⟩ ⟨caps⟩) (hk:ret o (.fn f (Hs e first) (Hs e caps)) K):∃f,K f/\cJ P n o e h f:=by
 refine aI hd hk fun e' h' he g w a s=>⟨.func (.func f) (first.map a.eval).toArray (caps.map a.eval).toArray,by simp[execOp,ho,Instr.makeFunc],fun d _=>?_⟩
 have key:∀(xs:List Operand),(∀x∈xs,x∈o.op.operands)->∀(j:Nat) (v:Value) (c:AV),(xs.map a.eval)[j]?=some v->(Hs e xs)[j]?=some c->aH g w (aE h') none v c:=by
  intro xs hxs j v c hv hc;rw[HS]at hc;rw[List.getElem?_map]at hv
  cases hx:xs[j]? with
  |none=>simp[hx]at hv
  |some x=>
   simp only[hx,Option.map_some,Option.some.injEq]at hv hc;subst hv;subst hc;obtain⟨_,r⟩:=s.cR he (hxs x (List.mem_of_getElem? hx)) rfl;exact r.copy
 refine .fn _ f _ _ _ _ (by simp[zY]) (by simp[zY]) (key first fun x hx=>by simp[ho,Op.operands,hx]) (key caps fun x hx=>by simp[ho,Op.operands,hx])
theorem FX (hd:∀d,o.dst=some d->d<n) {x:Operand} (ho:o.op=.nilCheck x)
 (hk:match ev e x with
   |.ptr l off=>ret o (.ptr l off) K
   |.vp cs=>ret o (.vp cs) K
   |.fn f a b=>ret o (.fn f a b) K
   |_=>ah "nilCheck"):∃f,K f/\cJ P n o e h f:=by
 have m1:x∈o.op.operands:=by simp[ho,Op.operands]
 split at hk
 ·rename_i l off hx
  refine aI hd hk fun e' h' he g w a s=>?_;obtain⟨_,r1⟩:=s.cR he m1 hx;generalize hv:a.eval x=v at r1
  cases r1 with
  |ptr _ _ _ hdm=>exact⟨_,by simp[execOp,ho,hv],fun d _=>.ptr _ _ _ hdm⟩
 ·rename_i cs hx
  refine aI hd hk fun e' h' he g w a s=>?_;obtain⟨_,r1⟩:=s.cR he m1 hx;generalize hv:a.eval x=v at r1
  cases r1 with
  |vp _ ad _ f hs hm hx=>exact⟨_,by simp[execOp,ho,hv],fun d _=>.vp _ ad _ f hs hm hx⟩
 ·rename_i f a1 b1 hx
  refine aI hd hk fun e' h' he g w a s=>?_;obtain⟨_,r1⟩:=s.cR he m1 hx;generalize hv:a.eval x=v at r1
  cases r1 with
  |fn _ _ fs cs _ _ h1 h2 hf hc=>exact⟨_,by simp[execOp,ho,hv],fun d _=>.fn _ _ fs cs _ _ h1 h2 hf hc⟩
 ·exact hk.elim
theorem tI (hty:bB P ty) {t f:Nat} {fd:Field} (hf:gM ty t f=some fd):∃fs,P.underlying t=some (.struct fs)/\fs[f]?=some fd:=by
 unfold gM at hf;split at hf
 ·rename_i i hi
  split at hf
  ·rename_i fs hfs
   refine⟨fs,?_,by simpa using hf⟩;rw[<-hfs];exact(hty t i hi).und
  ·cases hf
 ·cases hf
theorem bG (hty:bB P ty) {t:Nat} {i:TI} (hi:ty t=some i) (w:World):(sizeOf t).run P w=.ok i.size w:=by
 obtain⟨inf,z,h1,h2,_⟩:=(hty t i hi).inf;simp[sizeOf,typeInfo,h1,h2]
theorem lg (hty:bB P ty) {t:Nat} {i:TI} (hi:ty t=some i) (w:World):(isAgg t).run P w=.ok (dA i.desc) w:=by
 unfold isAgg;simp only[Sem.run_bind,run_underlying (hty t i hi).und,Result.andThen_ok];cases i.desc<;>rfl
theorem ku (hty:bB P ty) {t f:Nat} {fd:Field} {j:TI} (hf:gM ty t f=some fd) (hj:ty fd.type=some j) (hz:Nat.beq j.size 0=false) {a:Addr} (hs:a.spot=none) (w:World):
 (Instr.fieldAt t (.pointer (some a)) f).run P w=.ok (.pointer (some ⟨a.block,a.off+fd.offset,none⟩)) w:=by
 obtain⟨fs,h1,h2⟩:=tI hty hf;have hne:j.size≠0:=fun e=>by rw[e]at hz;cases hz
 simp only[Instr.fieldAt,Sem.run_bind,run_underlying h1,Result.andThen_ok,h2,Instr.sureAddr,Sem.run_pure,fieldPlace,bG hty hj,if_neg hne,Addr.eK hs]
theorem vg (hty:bB P ty) (hd:∀d,o.dst=some d->d<n) {t f:Nat} {x:Operand} (ho:o.op=.fieldAddr t x f)
 (hk:match gM ty t f with
   |some fd=>match ty fd.type with
    |some j=>match Nat.beq j.size 0,ev e x with
     |false,.ptr l off=>ret o (.ptr l (off+fd.offset)) K
     |false,.vp cs=>ret o (.vp (cs.drop fd.offset)) K
     |_,_=>ah "fieldAddr"
    |none=>ah "fieldAddr"
   |none=>ah "fieldAddr"):∃f,K f/\cJ P n o e h f:=by
 have m1:x∈o.op.operands:=by simp[ho,Op.operands]
 split at hk
 ·rename_i fd hfd
  split at hk
  ·rename_i j hj
   split at hk
   ·rename_i l off hz hx
    refine aI hd hk fun e' h' he g w a s=>?_;obtain⟨_,r1⟩:=s.cR he m1 hx;generalize hv:a.eval x=v at r1
    cases r1 with
    |ptr _ _ _ hdm=>
     refine⟨.pointer (some ⟨g.ρ l,off+fd.offset,none⟩),?_,fun d _=>.ptr _ _ _ hdm⟩;simp only[execOp,ho,hv,Sem.run_bind,ku hty hfd hj hz (a:=⟨g.ρ l,off,none⟩) rfl,Result.andThen_ok,Sem.run_pure]
   ·rename_i cs hz hx
    refine aI hd hk fun e' h' he g w a s=>?_;obtain⟨_,r1⟩:=s.cR he m1 hx;generalize hv:a.eval x=v at r1
    cases r1 with
    |vp _ ad _ f hs hm hx=>
     refine⟨.pointer (some ⟨ad.block,ad.off+fd.offset,none⟩),?_,fun d _=>.vp _ _ _ (fun i=>f (fd.offset+i)) rfl (fun i y hy=>?_) (fun i y hy=>?_)⟩
     ·simp only[execOp,ho,hv,Sem.run_bind,ku hty hfd hj hz hs,Result.andThen_ok,Sem.run_pure]
     ·rw[List.getElem?_drop]at hy
      have:=hm (fd.offset+i) y hy;rw[Nat.add_assoc];exact this
     ·rw[List.getElem?_drop]at hy
      exact hx (fd.offset+i) y hy
   ·exact hk.elim
  ·exact hk.elim
 ·exact hk.elim
theorem B6 (hty:bB P ty) (hd:∀d,o.dst=some d->d<n) {t f:Nat} {x:Operand} (ho:o.op=.field t x f)
 (hk:match gM ty t f with
 |some fd=>match ty fd.type with
  |some j=>match (ev e x).lH with
   |some cs=>match dA j.desc with
    |true=>match jy cs fd.offset j.size with
     |some l=>ret o (qH l j.csz) K
     |none=>ah "field"
    |false=>match cs[fd.offset]? with
     |some v=>ret o v.copy K
     |none=>ah "field"
   |none=>ah "field"
  |none=>ah "field"
 |none=>ah "field"):∃f,K f/\cJ P n o e h f:=by
 have m1:x∈o.op.operands:=by simp[ho,Op.operands]
 split at hk
 ·rename_i fd hfd
  obtain⟨fs,hu,hfs⟩:=tI hty hfd;split at hk
  ·rename_i j hj
   split at hk
   ·rename_i cs hcs
    have hval:∀{e':Env} {h':Heap} {g:Gh} {w:World} {a:Act},(∀t∈slotsOf o,aL e' t=aL e t)->cw g w n a e' h'->∃vs:List Value,a.eval x=.agg vs.toArray/\vs.length=cs.length/\(∀u∈vs,u.oneCell'=true)/\
     ∀(j:Nat) (u:Value) (c:AV),vs[j]?=some u->cs[j]?=some c->aH g w (aE h') none u c:=by
     intro e' h' g w a he s;obtain⟨_,r1⟩:=s.cR he m1 rfl
     have hagg:(∃xs,ev e x=.p (.agg xs))\/∃cs,ev e x=.agg cs:=by
      unfold AV.lH at hcs;split at hcs
      ·rename_i q;exact .inl ⟨_,q⟩
      ·rename_i q;exact .inr ⟨_,q⟩
      ·cases hcs
     rcases hagg with⟨xs,hx⟩|⟨cs',hx⟩
     ·rw[hx]at r1 hcs
      generalize hv:a.eval x=v at r1
      cases r1 with
      |p _ _ _ hp=>
       cases hp with
       |agg vs _ hl h1 hx=>
        simp only[AV.lH,Option.some.injEq]at hcs;subst hcs;refine⟨vs,rfl,by simp[rJ,hl],h1,fun j u c hu hc=>?_⟩;rw[sr]at hc
        cases hxs:xs[j]? with
        |none=>simp[hxs]at hc
        |some y=>
         simp only[hxs,Option.map_some,Option.some.injEq]at hc;subst hc;exact .p _ _ _ (hx j u y hu hxs)
     ·rw[hx]at r1 hcs
      generalize hv:a.eval x=v at r1
      cases r1 with
      |agg _ vs _ hl h1 hx=>
       simp only[AV.lH,Option.some.injEq]at hcs;subst hcs;exact⟨vs,rfl,hl,h1,hx⟩
    split at hk
    ·rename_i hag
     split at hk
     ·rename_i l hl
      obtain⟨hl1,hl2⟩:=gz _ _ _ _ hl;refine aI hd hk fun e' h' he g w a s=>?_;obtain⟨vs,hv,hlen,h1,hx⟩:=hval he s
      have hsz:fd.offset+j.size<=vs.length\/j.size=0:=by
       rcases Nat.eq_zero_or_pos j.size with h0|h0
       ·exact .inr h0
       ·left
        have:=hl2 (j.size-1) (by omega)
        have hlt:fd.offset+(j.size-1)<cs.length:=by
         rcases Nat.lt_or_ge (fd.offset+(j.size-1)) cs.length with h2|h2
         ·exact h2
         ·rw[List.getElem?_eq_none h2,List.getElem?_eq_none_iff]at this;omega
        omega
      refine⟨.agg ((vs.drop fd.offset).take j.size).toArray,?_,fun d _=>qV _ _ _ ?_ (fun v hv=>h1 v (List.mem_of_mem_drop (List.mem_of_mem_take hv))) fun i v c hvi hc=>?_⟩
      ·have:(vs.toArray.extract fd.offset (fd.offset+j.size))=((vs.drop fd.offset).take j.size).toArray:=by
        apply Array.ext'
        simp[List.extract_eq_take_drop]
       simp only[execOp,ho,hv,Instr.field,Sem.run_bind,run_underlying hu,Result.andThen_ok,hfs,asAgg,Sem.run_pure,part,lg hty hj,hag,if_true,bG hty hj,this]
      ·simp[hl1];omega
      ·have hi:i<j.size:=by
        rcases Nat.lt_or_ge i l.length with h2|h2
        ·omega
        ·rw[List.getElem?_eq_none h2]at hc;cases hc
       rw[List.getElem?_take,if_pos hi,List.getElem?_drop]at hvi;rw[hl2 i hi]at hc;exact⟨none,hx _ _ _ hvi hc⟩
     ·exact hk.elim
    ·rename_i hag
     split at hk
     ·rename_i c hc
      refine aI hd hk fun e' h' he g w a s=>?_;obtain⟨vs,hv,hlen,h1,hx⟩:=hval he s;have hlt:fd.offset<vs.length:=by have:=(List.getElem?_eq_some_iff.1 hc).1;omega
      refine⟨vs[fd.offset],?_,fun d _=>(hx fd.offset _ c (by simp[hlt]) hc).copy⟩;simp[execOp,ho,hv,Instr.field,run_underlying hu,hfs,asAgg,part,lg hty hj,hag,hlt]
     ·exact hk.elim
   ·exact hk.elim
  ·exact hk.elim
 ·exact hk.elim
theorem yb (hd:∀d,o.dst=some d->d<n) {x:Operand} {m:Nat} (ho:o.op=.extract x m)
 (hk:match ev e x with
 |.cI vs=>match vs[m]? with
  |some v=>ret o v.copy K
  |none=>ah "extract"
 |_=>ah "extract"):∃f,K f/\cJ P n o e h f:=by
 have m1:x∈o.op.operands:=by simp[ho,Op.operands]
 split at hk
 ·rename_i cs hx
  split at hk
  ·rename_i c hc
   refine aI hd hk fun e' h' he g w a s=>?_;obtain⟨_,r1⟩:=s.cR he m1 hx;generalize hv:a.eval x=v at r1
   cases r1 with
   |cI _ vs _ hl hx=>
    have hlt:m<vs.length:=by have:=(List.getElem?_eq_some_iff.1 hc).1;omega
    refine⟨vs[m],?_,fun d _=>(hx m _ c (by simp[hlt]) hc).copy⟩;simp[execOp,ho,hv,Instr.extract,hlt]
  ·exact hk.elim
 ·exact hk.elim
end
section
variable {P:Program} {ty:Nat->Option TI} {n:Nat} {o:Oper} {e:Env} {h:Heap} {K:AK}
theorem cm {x:List Operand} {b:Builtin} {ts:Array TypeId} (ho:o.op=.call { callee:=.builtin b,args:=⟨x⟩,argTypes:=ts }) (a:Act) (w:World):
 ∃cs,(execOp a.eval o).run P w=(builtin b ts o.type cs (x.map a.eval).toArray).run P w:=by
 cases o;simp only at ho;subst ho;exact⟨_,congrArg (fun z=>Sem.run P (builtin b ts _ _ z) w) (List.map_toArray ..)⟩
theorem B7 {t:TypeId} {d:TypeDesc} {v:Value} {k:Int} (hu:P.underlying t=some d) (h:(d=.string/\∃s,v=.string s/\k=s.size)\/((∃el,d=.slice el)/\∃a n c,v=.slice a n c/\k=n)) {ts:List TypeId} (w:World):
 (Builtin.len_ (t::ts).toArray 0 #[v]).run P w=.ok (.int .i64 k) w:=by
 rcases h with⟨rfl,s,rfl,rfl⟩|⟨⟨el,rfl⟩,a,n,c,rfl,rfl⟩<;>simp[Builtin.len_,run_underlying hu,goInt]
theorem aH.Pq {g:Gh} {w:World} {dom:Nat->Prop} {ow:Option bg} {v:Value} {sz:Nat} {xs:List PV} (r:aH g w dom ow v (.p (.sl sz xs))):∃a c,v=.slice a xs.length c:=by
 cases r with
 |p _ _ _ hp=>cases hp with
  |nil=>exact⟨none,0,rfl⟩
  |sl a cap _ _ f=>exact⟨some a,cap,rfl⟩
theorem GW (hty:bB P ty) (hd:∀d,o.dst=some d->d<n) {x:Operand} {t:Nat} {ts:List TypeId} (ho:o.op=.call { callee:=.builtin .len,args:=⟨[x]⟩,argTypes:=⟨t::ts⟩ })
 (hk:K9 ty o t (ev e x) h K):∃f,K f/\cJ P n o e h f:=by
 have m1:x∈o.op.operands:=by simp[ho,Op.operands,Call.operands]
 have hrun:∀(a:Act) (w:World) (k:Int),(∀u,(Builtin.len_ (t::ts).toArray u #[a.eval x]).run P w=.ok (.int .i64 k) w)->(execOp a.eval o).run P w=.ok (.value (.int .i64 k)) w:=by
  intro a w k hl;obtain⟨cs,hcs⟩:=cm (P:=P) ho a w;rw[hcs];simp only[builtin,List.map_cons,List.map_nil,Sem.run_bind];rw[show(⟨t::ts⟩:Array TypeId)=(t::ts).toArray from rfl,hl];rfl
 have hl:∀{d:TypeDesc} {v:Value} {k:Int},P.underlying t=some d->((d=.string/\∃s,v=.string s/\k=(s.size:Int))\/((∃el,d=.slice el)/\∃(a:Option Addr) (n c:Nat),v=.slice a n c/\k=(n:Int)))->∀u w,(Builtin.len_ (t::ts).toArray u #[v]).run P w=.ok (.int .i64 k) w:=by
  intro d v k hu hh u w;exact B7 hu hh w
 unfold K9 at hk;split at hk
 ·rename_i i hi
  have hu:=(hty t i hi).und;split at hk
  ·rename_i el hde
   rw[hde]at hu;split at hk
   ·rename_i sz xs hx
    refine aI hd hk fun e' h' he g w a s=>?_;obtain⟨_,r1⟩:=s.cR he m1 hx;obtain⟨ad,c,hv⟩:=r1.Pq;exact⟨_,hrun a w _ (fun u=>hl hu (.inr ⟨⟨el,rfl⟩,ad,_,c,hv,rfl⟩) u w),fun d _=>.p _ _ _ (.i _ _)⟩
   ·rename_i sz xs hx
    refine aI hd hk fun e' h' he g w a s=>?_;obtain⟨_,r1⟩:=s.cR he m1 hx;obtain⟨ad,c,hv⟩:=(r1.copy (ow':=none)).Pq;exact⟨_,hrun a w _ (fun u=>hl hu (.inr ⟨⟨el,rfl⟩,ad,_,c,hv,rfl⟩) u w),fun d _=>.p _ _ _ (.i _ _)⟩
   ·rename_i hx
    refine aI hd hk fun e' h' he g w a s=>?_;obtain⟨_,r1⟩:=s.cR he m1 hx;generalize hv:a.eval x=v at r1
    cases r1 with
    |cx=>exact⟨_,hrun a w 0 (fun u=>hl hu (.inr ⟨⟨el,rfl⟩,none,0,0,hv,rfl⟩) u w),fun d _=>.p _ _ _ (.i _ _)⟩
   ·rename_i sz hx
    refine aI hd hk fun e' h' he g w a s=>?_;obtain⟨_,r1⟩:=s.cR he m1 hx;generalize hv:a.eval x=v at r1
    cases r1 with
    |es _ ad cap _ _=>exact⟨_,hrun a w 0 (fun u=>hl hu (.inr ⟨⟨el,rfl⟩,some ad,0,cap,hv,rfl⟩) u w),fun d _=>.p _ _ _ (.i _ _)⟩
   ·rename_i l hx
    split at hk
    ·rename_i xs hh
     refine dD hd hk fun e' h' he hl' g w a s=>?_;obtain⟨_,r1⟩:=s.cR he m1 hx;generalize hv:a.eval x=v at r1
     cases r1 with
     |ar _ _ m hdm hn=>
      obtain⟨cs,E,hb,rfl⟩:=hn;rw[hh]at hl'
      cases s.heap.obj l _ hl' with
      |arr _ vs E' hb' hlen=>
       rw[hb]at hb';cases hb';exact⟨_,hrun a w _ (fun u=>hl hu (.inr ⟨⟨el,rfl⟩,_,_,_,hv,rfl⟩) u w),fun d _=>by rw[hlen];exact .p _ _ _ (.i _ _)⟩
    ·rename_i xs hh
     refine dD hd hk fun e' h' he hl' g w a s=>?_;obtain⟨_,r1⟩:=s.cR he m1 hx;generalize hv:a.eval x=v at r1
     cases r1 with
     |ar _ _ m hdm hn=>
      obtain⟨cs,E,hb,rfl⟩:=hn;rw[hh]at hl'
      cases s.heap.obj l _ hl' with
      |cells _ vs E' hb' hlen=>
       rw[hb]at hb';cases hb';exact⟨_,hrun a w _ (fun u=>hl hu (.inr ⟨⟨el,rfl⟩,_,_,_,hv,rfl⟩) u w),fun d _=>by rw[hlen];exact .p _ _ _ (.i _ _)⟩
    ·exact hk.elim
   ·exact hk.elim
  ·rename_i hde
   rw[hde]at hu;split at hk
   ·rename_i y hx
    refine aI hd hk fun e' h' he g w a s=>?_;obtain⟨_,r1⟩:=s.cR he m1 hx;exact⟨_,hrun a w _ (fun u=>hl hu (.inl ⟨rfl,y,r1.str,rfl⟩) u w),fun d _=>.p _ _ _ (.i _ _)⟩
   ·exact hk.elim
  ·exact hk.elim
 ·exact hk.elim
theorem kF {g:Gh} {w:World} {b i:Nat} {v:Value} (h:bT g w b i=some v):w.cell? ⟨b,i,none⟩=some v:=by
 simp only[cO]at h;split at h
 ·exact h
 ·cases h
theorem vi (hty:bB P ty) (hd:∀d,o.dst=some d->d<n) {x ix:Operand} {t:Nat} (ho:o.op=.indexAddr t x ix) (hk:lT ty o t (ev e x).copy (ev e ix) h K):∃f,K f/\cJ P n o e h f:=by
 have m1:x∈o.op.operands:=by simp[ho,Op.operands]
 have m2:ix∈o.op.operands:=by simp[ho,Op.operands]
 unfold lT at hk;split at hk
 ·rename_i i hi
  split at hk
  ·rename_i el hde
   have hu:=(hty t i hi).und;rw[hde]at hu;split at hk
   ·rename_i j hj
    split at hk
    ·rename_i sz xs k m hx hix
     split at hk
     ·rename_i hz
      obtain rfl:sz=j.size:=Nat.eq_of_beq_eq_true hz;obtain⟨y,h0,hy,hk⟩:=hk;refine aI hd hk fun e' h' he g w a s=>?_;obtain⟨_,r1⟩:=s.cR he m1 rfl;have r1:=r1.copy (ow':=none);rw[hx]at r1;obtain⟨_,r2⟩:=s.cR he m2 hix;have hlt:m.toNat<xs.length:=(List.getElem?_eq_some_iff.1 hy).1;generalize hv:a.eval x=v at r1
      cases r1 with
      |p _ _ _ hp=>
       cases hp with
       |nil=>simp at hy
       |sl ad cap _ _ f hs hc hz2 hm hxx=>
        refine⟨.pointer (some ⟨ad.block,ad.off+m.toNat*j.size,none⟩),?_,fun d _=>.vp _ _ _ (fun q=>f m.toNat q) rfl (fun q z hq=>hm m.toNat y hy q z hq) (fun q z hq=>hxx m.toNat y hy q z hq)⟩;have hlt':m<(xs.length:Int):=by omega
        simp only[execOp,ho,hv,r2.int,Instr.indexAt,asIntOf,Sem.run_bind,Sem.run_pure,Result.andThen_ok,run_underlying hu,h0,hlt',and_self,if_true,bG hty hj,Addr.eK (hs (by omega))]
     ·exact hk.elim
    ·rename_i l k m hx hix
     split at hk
     ·rename_i xs hh
      split at hk
      ·rename_i hz
       have hz:j.size=1:=Nat.eq_of_beq_eq_true hz;obtain⟨⟨h0,hlt⟩,hk⟩:=hk;refine dD hd hk fun e' h' he hl' g w a s=>?_;obtain⟨_,r1⟩:=s.cR he m1 rfl;have r1:=r1.copy (ow':=none);rw[hx]at r1;obtain⟨_,r2⟩:=s.cR he m2 hix;generalize hv:a.eval x=v at r1
       cases r1 with
       |ar _ _ q hdm hn=>
        obtain⟨cs,E,hb,rfl⟩:=hn;rw[hh]at hl'
        cases s.heap.obj l _ hl' with
        |arr _ vs E' hb' hlen=>
         rw[hb]at hb';cases hb';refine⟨.pointer (some ⟨g.ρ l,m.toNat,none⟩),?_,fun d _=>.ap _ _ _ hdm⟩;have hlt':m<(cs.size:Int):=by omega
         simp only[execOp,ho,hv,r2.int,Instr.indexAt,asIntOf,Sem.run_bind,Sem.run_pure,Result.andThen_ok,run_underlying hu,h0,hlt',and_self,if_true,bG hty hj,hz,Nat.mul_one,Addr.add_plain,Nat.zero_add]
      ·exact hk.elim
     ·rename_i xs hh
      split at hk
      ·rename_i hz
       have hz:j.size=1:=Nat.eq_of_beq_eq_true hz;obtain⟨⟨h0,hlt⟩,hk⟩:=hk;refine dD hd hk fun e' h' he hl' g w a s=>?_;obtain⟨_,r1⟩:=s.cR he m1 rfl;have r1:=r1.copy (ow':=none);rw[hx]at r1;obtain⟨_,r2⟩:=s.cR he m2 hix;generalize hv:a.eval x=v at r1
       cases r1 with
       |ar _ _ q hdm hn=>
        obtain⟨cs,E,hb,rfl⟩:=hn;rw[hh]at hl'
        cases s.heap.obj l _ hl' with
        |cells _ vs E' hb' hlen=>
         rw[hb]at hb';cases hb';refine⟨.pointer (some ⟨g.ρ l,m.toNat,none⟩),?_,fun d _=>.ptr _ _ _ hdm⟩;have hlt':m<(cs.size:Int):=by omega
         simp only[execOp,ho,hv,r2.int,Instr.indexAt,asIntOf,Sem.run_bind,Sem.run_pure,Result.andThen_ok,run_underlying hu,h0,hlt',and_self,if_true,bG hty hj,hz,Nat.mul_one,Addr.add_plain,Nat.zero_add]
      ·exact hk.elim
     ·exact hk.elim
    ·exact hk.elim
   ·exact hk.elim
  ·rename_i len el hde
   have hu:=(hty t i hi).und;rw[hde]at hu;split at hk
   ·rename_i j hj
    split at hk
    ·rename_i cs k m hx hix
     obtain⟨⟨h0,hlt⟩,hk⟩:=hk;refine aI hd hk fun e' h' he g w a s=>?_;obtain⟨_,r1⟩:=s.cR he m1 rfl;have r1:=r1.copy (ow':=none);rw[hx]at r1;obtain⟨_,r2⟩:=s.cR he m2 hix;generalize hv:a.eval x=v at r1
     cases r1 with
     |vp _ ad _ f hs hm hxx=>
      refine⟨.pointer (some ⟨ad.block,ad.off+m.toNat*j.size,none⟩),?_,fun d _=>.vp _ _ _ (fun q=>f (m.toNat*j.size+q)) rfl (fun q z hq=>?_) (fun q z hq=>?_)⟩
      ·simp only[execOp,ho,hv,r2.int,Instr.indexAt,Instr.sureAddr,asIntOf,Sem.run_bind,Sem.run_pure,Result.andThen_ok,run_underlying hu,h0,hlt,and_self,if_true,bG hty hj,Addr.eK hs]
      ·have:=hm (m.toNat*j.size+q) z (by rw[List.getElem?_drop]at hq;exact hq)
       rw[show ad.off+(m.toNat*j.size+q)=ad.off+m.toNat*j.size+q by omega]at this;exact this
      ·exact hxx (m.toNat*j.size+q) z (by rw[List.getElem?_drop]at hq;exact hq)
    ·rename_i l off k m hx hix
     obtain⟨⟨h0,hlt⟩,hk⟩:=hk;refine aI hd hk fun e' h' he g w a s=>?_;obtain⟨_,r1⟩:=s.cR he m1 rfl;have r1:=r1.copy (ow':=none);rw[hx]at r1;obtain⟨_,r2⟩:=s.cR he m2 hix;generalize hv:a.eval x=v at r1
     cases r1 with
     |ptr _ _ _ hdm=>
      refine⟨.pointer (some ⟨g.ρ l,off+m.toNat*j.size,none⟩),?_,fun d _=>.ptr _ _ _ hdm⟩;simp only[execOp,ho,hv,r2.int,Instr.indexAt,Instr.sureAddr,asIntOf,Sem.run_bind,Sem.run_pure,Result.andThen_ok,run_underlying hu,h0,hlt,and_self,if_true,bG hty hj,Addr.add_plain]
    ·exact hk.elim
   ·exact hk.elim
  ·exact hk.elim
 ·exact hk.elim
end
end Go.AM
