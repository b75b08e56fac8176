/- Part of a machine over plain values. No conditions. -/
import Derived.Test.YtdmopjgjhfhfdaaGreatDoorAMDynM
set_option linter.all false
set_option maxRecDepth 100000
namespace Go.AM
section
variable {P:Program} {ty:Nat->Option TI} {n:Nat} {o:Oper} {e:Env} {h:Heap} {K:AK}
theorem D8 (hty:bB P ty) {t:Nat} (hh:yX ty t=true):∃el,P.underlying t=some (.pointer el):=by
 unfold yX at hh;split at hh
 ·rename_i i hi
  split at hh
  ·rename_i el hde;exact⟨el,by rw[<-hde];exact(hty t i hi).und⟩
  ·cases hh
 ·cases hh
theorem fQ (d:Nat) {t el:TypeId} (h:P.underlying t=some (.pointer el)) (a:Option Addr) (w:World):(Op.equalIn (d+1) t (.pointer a) (.pointer none)).run P w=.ok a.isNone w:=by
 cases a<;>simp[Op.equalIn,run_underlying h]
theorem rL (d:Nat) {t el:TypeId} (h:P.underlying t=some (.pointer el)) (a:Option Addr) (w:World):(Op.equalIn (d+1) t (.pointer none) (.pointer a)).run P w=.ok a.isNone w:=by
 cases a<;>simp[Op.equalIn,run_underlying h]
theorem G1 (hty:bB P ty) (hd:∀d,o.dst=some d->d<n) {op:BinOp} {t t':TypeId} {x y:Operand} (ho:o.op=.binOp op t x y t') (hk:Oj ty o h op t (ev e x) (ev e y) K):∃f,K f/\cJ P n o e h f:=by
 have m1:x∈o.op.operands:=by simp[ho,Op.operands]
 have m2:y∈o.op.operands:=by simp[ho,Op.operands]
 have fin:∀{a:Act} {w:World} {b:Bool} {v u:Value},a.eval x=v->a.eval y=u->((∃q,v=.pointer q)\/∃q m c,v=.slice q m c)->(Op.equal t v u).run P w=.ok b w->
  (op=.eql->(execOp a.eval o).run P w=.ok (.value (.bool b)) w)/\(op=.neq->(execOp a.eval o).run P w=.ok (.value (.bool (!b))) w):=by
  intro a w b v u hv hu hg he;rcases hg with⟨q,rfl⟩|⟨q,m,c,rfl⟩<;>refine⟨fun q=>?_,fun q=>?_⟩<;>subst q<;>simp[execOp,ho,hv,hu,cC,binOp,he]
 have plain:∀{b:Bool},(∀{e':Env} {h':Heap} {g:Gh} {w:World} {a:Act},(∀t∈slotsOf o,aL e' t=aL e t)->cw g w n a e' h'->∃v u,a.eval x=v/\a.eval y=u/\((∃q,v=.pointer q)\/∃q m c,v=.slice q m c)/\(Op.equal t v u).run P w=.ok b w)->
  ((op=.eql/\ret o (.p (.b b)) K)\/(op=.neq/\ret o (.p (.b (!b))) K))->∃f,K f/\cJ P n o e h f:=by
  intro b hh hc;clear hk;rcases hc with⟨rfl,hk2⟩|⟨rfl,hk2⟩
  ·refine aI hd hk2 fun e' h' he g w a s=>?_
   obtain⟨v,u,h1,h2,h3,h4⟩:=hh he s;exact⟨_,(fin h1 h2 h3 h4).1 rfl,fun d _=>.p _ _ _ (.b _)⟩
  ·refine aI hd hk2 fun e' h' he g w a s=>?_
   obtain⟨v,u,h1,h2,h3,h4⟩:=hh he s;exact⟨_,(fin h1 h2 h3 h4).2 rfl,fun d _=>.p _ _ _ (.b _)⟩
 unfold Oj at hk;split at hk
 ·rename_i s1 k1 m1' hx hy
  have key:eF ty t=true->∀{e':Env} {h':Heap} {g:Gh} {w:World} {a:Act},(∀t∈slotsOf o,aL e' t=aL e t)->cw g w n a e' h'->∃v u,a.eval x=v/\a.eval y=u/\((∃q,v=.pointer q)\/∃q m c,v=.slice q m c)/\(Op.equal t v u).run P w=.ok false w:=by
   intro ht e' h' g w a he s;obtain⟨_,r1⟩:=s.cR he m1 hx;obtain⟨_,r2⟩:=s.cR he m2 hy;have hp:=r1.pv;generalize a.eval x=v at hp;generalize a.eval y=u at r2
   cases hp with
   |kE _ _ A _ cap q hc=>cases r2;exact⟨_,_,rfl,rfl,.inr ⟨_,_,_,rfl⟩,om hty ht⟩
  split at hk
  ·rename_i ht;exact plain (b:=false) (key ht) (.inl ⟨rfl,hk⟩)
  ·rename_i ht;exact plain (b:=false) (key ht) (.inr ⟨rfl,hk⟩)
  ·exact hk.elim
 ·rename_i hx hy
  have key:eF ty t=true->∀{e':Env} {h':Heap} {g:Gh} {w:World} {a:Act},(∀t∈slotsOf o,aL e' t=aL e t)->cw g w n a e' h'->∃v u,a.eval x=v/\a.eval y=u/\((∃q,v=.pointer q)\/∃q m c,v=.slice q m c)/\(Op.equal t v u).run P w=.ok true w:=by
   intro ht e' h' g w a he s;obtain⟨_,r1⟩:=s.cR he m1 hx;obtain⟨_,r2⟩:=s.cR he m2 hy;have hp:=r1.pv;generalize a.eval x=v at hp;generalize a.eval y=u at r2
   cases hp with
   |tf=>cases r2;exact⟨_,_,rfl,rfl,.inr ⟨_,_,_,rfl⟩,om hty ht⟩
  split at hk
  ·rename_i ht;exact plain (b:=true) (key ht) (.inl ⟨rfl,hk⟩)
  ·rename_i ht;exact plain (b:=true) (key ht) (.inr ⟨rfl,hk⟩)
  ·exact hk.elim
 ·rename_i s1 k1 s2 k2 hx hy
  split at hk
  ·rename_i i ht hi
   split at hk
   ·rename_i T hde
    have hu:=(hty t i hi).und;rw[hde]at hu;split at hk
    ·rename_i j hj
     obtain⟨inf,z,i1,i2,i3,i4,i5,i6⟩:=(hty T j hj).inf;split at hk
     ·rename_i hz0
      have hz0:inf.size≠0:=fun q=>by rw[<-i2,q]at hz0;cases hz0
      have hk0:=dK hk;clear hk;obtain⟨l,sp,nx,sz,M,hg,⟨e1,e2,hsn,q1,q2⟩,hk2⟩:=hk0;subst e1;subst e2
      have key:∀{e':Env} {h':Heap} {g:Gh} {w:World} {a:Act},(∀t∈slotsOf o,aL e' t=aL e t)->aF h' l=aF h l->cw g w n a e' h'->∃v u,a.eval x=v/\a.eval y=u/\((∃q,v=.pointer q)\/∃q m c,v=.slice q m c)/\(Op.equal t v u).run P w=.ok (Nat.beq k1 k2) w:=by
       intro e' h' g w a he hl s;have hst:=s.blk (hl.trans hg);obtain⟨_,r1⟩:=s.cR he m1 hx;obtain⟨_,r2⟩:=s.cR he m2 hy;have p1:=r1.pv;have p2:=r2.pv;obtain⟨xs,hxs⟩:=Option.isSome_iff_exists.1 q1;obtain⟨ys,hys⟩:=Option.isSome_iff_exists.1 q2;obtain⟨A,hA,_,_,va,Ea,hba,_⟩:=hst.EV hsn k1 xs (dc hxs);obtain⟨B,hB,_,_,vb,Eb,hbb,_⟩:=hst.EV hsn k2 ys (dc hys);generalize a.eval x=v at p1;generalize a.eval y=u at p2
       cases p1 with
       |bH _ _ a1 C1 r1=>
       cases p2 with
       |bH _ _ a2 C2 r2=>
        replace r1:g.σ _ k1=some (a1,C1):=r1;replace r2:g.σ _ k2=some (a2,C2):=r2;rw[hA]at r1;cases r1;rw[hB]at r2;cases r2;refine⟨_,_,rfl,rfl,.inl ⟨_,rfl⟩,?_⟩
        by_cases ek:k1=k2
        ·subst ek
         rw[hA]at hB;cases hB;rw[Nat.beq_refl];exact rI 9999 hu i1 _ w
        ·rw[beq_false ek]
         have hne:a1≠a2:=fun q=>ek (hst.inj k1 k2 xs ys _ _ (dc hxs) (dc hys) hA hB q);exact qm 9999 hu i1 hz0 w (fun q=>hne (by cases q;rfl)) hba hbb
      split at hk2
      ·refine dD hd hk2 fun e' h' he hl g w a s=>?_
       obtain⟨v,u,h1,h2,h3,h4⟩:=key he hl s;exact⟨_,(fin h1 h2 h3 h4).1 rfl,fun d _=>.p _ _ _ (.b _)⟩
      ·refine dD hd hk2 fun e' h' he hl g w a s=>?_
       obtain⟨v,u,h1,h2,h3,h4⟩:=key he hl s;exact⟨_,(fin h1 h2 h3 h4).2 rfl,fun d _=>.p _ _ _ (.b _)⟩
      ·exact hk2.elim
     ·exact hk.elim
    ·exact hk.elim
   ·exact hk.elim
  ·exact hk.elim
 ·have key:∀{b:Bool},yX ty t=true->ptrEq (ev e x) (ev e y)=some b->∀{e':Env} {h':Heap} {g:Gh} {w:World} {a:Act},(∀t∈slotsOf o,aL e' t=aL e t)->cw g w n a e' h'->∃v u,a.eval x=v/\a.eval y=u/\((∃q,v=.pointer q)\/∃q m c,v=.slice q m c)/\(Op.equal t v u).run P w=.ok b w:=by
   intro b ht hb e' h' g w a he s;obtain⟨el,hu⟩:=D8 hty ht;obtain⟨_,r1⟩:=s.cR he m1 rfl;obtain⟨_,r2⟩:=s.cR he m2 rfl;generalize a.eval x=v at r1;generalize a.eval y=u at r2;generalize ev e x=X at r1 hb;generalize ev e y=Y at r2 hb;have two:∀{a:Option Addr},(∃q,Value.pointer a=.pointer q)\/∃q m c,Value.pointer a=.slice q m c:=.inl ⟨_,rfl⟩;unfold ptrEq at hb;split at hb
   ·cases hb
    have p1:=r1.pv
    cases p1;cases r2
    exact⟨_,_,rfl,rfl,two,fQ 9999 hu _ w⟩
   ·cases hb
    have p1:=r1.pv;have p2:=r2.pv
    cases p1;cases p2
    exact⟨_,_,rfl,rfl,two,fQ 9999 hu _ w⟩
   ·cases hb
    have p1:=r1.pv;have p2:=r2.pv
    cases p1;cases p2
    exact⟨_,_,rfl,rfl,two,rL 9999 hu _ w⟩
   ·cases hb
    have p1:=r1.pv;have p2:=r2.pv
    cases p1;cases p2
    exact⟨_,_,rfl,rfl,two,rL 9999 hu _ w⟩
   ·cases hb
    have p1:=r1.pv
    cases p1;cases r2
    exact⟨_,_,rfl,rfl,two,fQ 9999 hu _ w⟩
   ·cases hb
    have p1:=r1.pv;have p2:=r2.pv
    cases p1;cases p2
    exact⟨_,_,rfl,rfl,two,fQ 9999 hu _ w⟩
   ·cases hb
    have p1:=r1.pv
    cases p1;cases r2
    exact⟨_,_,rfl,rfl,two,fQ 9999 hu _ w⟩
   ·cases hb
    have p1:=r1.pv;have p2:=r2.pv
    cases p1;cases p2
    exact⟨_,_,rfl,rfl,two,fQ 9999 hu _ w⟩
   ·cases hb
  split at hk
  ·rename_i b ht hb;exact plain (key ht hb) (.inl ⟨rfl,hk⟩)
  ·rename_i b ht hb;exact plain (key ht hb) (.inr ⟨rfl,hk⟩)
  ·exact hk.elim
theorem Jv (hty:bB P ty) (hd:∀d,o.dst=some d->d<n) {t:TypeId} {x:Operand} (ho:o.op=.makeInterface t x) (hk:Rk ty o t (ev e x) K):∃f,K f/\cJ P n o e h f:=by
 unfold Rk at hk;have m1:x∈o.op.operands:=by simp[ho,Op.operands]
 split at hk
 ·rename_i i y hi hx
  have hu:=(hty t i hi).und
  have fin:(∀ms,i.desc≠.interface ms)->ret o (.p (.uY t y)) K->∃f,K f/\cJ P n o e h f:=by
   intro hn hq;refine aI hd hq fun e' h' he g w a s=>?_;obtain⟨_,r1⟩:=s.cR he m1 hx;refine⟨.iface t (a.eval x),?_,fun d _=>.p _ _ _ (.uY t _ y r1.pv)⟩
   have hr:(Instr.makeInterface t (a.eval x)).run P w=.ok (.iface t (a.eval x)) w:=by
    simp only[Instr.makeInterface,Sem.run_bind,run_underlying hu,Result.andThen_ok]
    cases hdd:i.desc<;>first|rfl|exact absurd hdd (hn _)
   simp[execOp,ho,hr]
  split at hk
  ·exact hk.elim
  ·rename_i hn;exact fin (fun ms q=>hn ms q) hk
 ·exact hk.elim
theorem O5 (d:Nat) {t:TypeId} {ms:Array (String×TypeId)} (hu:P.underlying t=some (.interface ms)) (T:TypeId) (y:Value) (w:World):(Op.equalIn (d+1) t (.iface T y) .nilIface).run P w=.ok false w:=by
 simp only[Op.equalIn,Sem.run_bind,run_underlying hu,Result.andThen_ok,Sem.run_pure]
theorem OM (d:Nat) {t:TypeId} {ms:Array (String×TypeId)} (hu:P.underlying t=some (.interface ms)) (w:World):(Op.equalIn (d+1) t .nilIface .nilIface).run P w=.ok true w:=by
 simp only[Op.equalIn,Sem.run_bind,run_underlying hu,Result.andThen_ok,Sem.run_pure]
theorem Gw (hty:bB P ty) (hd:∀d,o.dst=some d->d<n) {op:BinOp} {t t':TypeId} {x:Operand} (ho:o.op=.binOp op t x (.const .nilIface) t') (hk:OL ty o op t (ev e x) K):∃f,K f/\cJ P n o e h f:=by
 unfold OL at hk;have m1:x∈o.op.operands:=by simp[ho,Op.operands]
 have key:∀{b:Bool},gE ty t=true->EP (ev e x)=some b->∀{e':Env} {h':Heap} {g:Gh} {w:World} {a:Act},(∀t∈slotsOf o,aL e' t=aL e t)->cw g w n a e' h'->
  (eqGuard op t x (.const .nilIface) (a.eval x) .nilIface).run P w=.ok () w/\(Op.equal t (a.eval x) .nilIface).run P w=.ok b w:=by
  intro b ht hb e' h' g w a he s
  have hu:∃ms,P.underlying t=some (.interface ms):=by
   unfold gE at ht;split at ht
   ·rename_i i hi
    split at ht
    ·rename_i ms hdd;exact⟨ms,by rw[<-hdd];exact(hty t i hi).und⟩
    ·cases ht
   ·cases ht
  obtain⟨ms,hu⟩:=hu;obtain⟨_,r1⟩:=s.cR he m1 rfl;generalize a.eval x=v at r1
  have hv:(b=false/\∃T y,v=.iface T y)\/(b=true/\v=.nilIface):=by
   generalize ev e x=X at r1 hb;unfold EP at hb;split at hb
   ·cases hb
    have p1:=r1.pv;cases p1;exact .inl ⟨rfl,_,_,rfl⟩
   ·cases hb
    have p1:=r1.pv;cases p1;exact .inr ⟨rfl,rfl⟩
   ·cases hb
    cases r1;exact .inr ⟨rfl,rfl⟩
   ·cases hb
  rcases hv with⟨rfl,T,y,rfl⟩|⟨rfl,rfl⟩
  ·refine⟨by unfold eqGuard;cases op<;>simp,?_⟩
   exact O5 9999 hu T y w
  ·refine⟨by unfold eqGuard;cases op<;>simp,?_⟩
   exact OM 9999 hu w
 have fin:∀{b q:Bool},gE ty t=true->EP (ev e x)=some b->ret o (.p (.b q)) K->((op=.eql/\q=b)\/(op=.neq/\q=!b))->∃f,K f/\cJ P n o e h f:=by
  intro b q ht hb hq hop;refine aI hd hq fun e' h' he g w a s=>?_;obtain⟨h1,h2⟩:=key ht hb he s;have hc:a.eval (.const .nilIface)=.nilIface:=rfl;refine⟨.bool q,?_,fun d _=>.p _ _ _ (.b _)⟩;rcases hop with⟨rfl,rfl⟩|⟨rfl,rfl⟩
  ·simp[execOp,ho,hc,h1,binOp,h2]
  ·simp[execOp,ho,hc,h1,binOp,h2]
 split at hk
 ·rename_i b ht hb;exact fin ht hb hk (.inl ⟨rfl,rfl⟩)
 ·rename_i b ht hb;exact fin ht hb hk (.inr ⟨rfl,rfl⟩)
 ·exact hk.elim
theorem Gq (hty:bB P ty) (hd:∀d,o.dst=some d->d<n) (hst:∀t x y,o.op=.store t x y->o.dst=none) (hst2:∀t m k v,o.op=.mapUpdate t m k v\/o.op=.insert t m k v->o.dst=none) (hk:Oh ty o e h K):∃f,K f/\cJ P n o e h f:=by
 unfold Oh at hk;split at hk
 ·rename_i t x ho;exact DF hty hd ho hk
 ·rename_i t x y ho;exact Ca hty ho (hst _ _ _ ho) hk
 ·rename_i t ho;exact Ce hty hd ho hk
 ·rename_i x ho;exact G0 hd ho hk
 ·rename_i s x f ho;exact BM hty hd ho hk
 ·rename_i t x ix ho;exact CX hty hd ho hk
 ·rename_i t x u ho;exact BO hty hd ho hk
 ·rename_i x t ts ho;exact FD hty hd ho hk
 ·rename_i x y t t2 ho;exact At hty hd ho hk
 ·rename_i t len parts ho;exact Cc hty hd ho hk
 ·rename_i t x ho;exact Jv hty hd ho hk
 ·rename_i t ho;exact zQ hty hd ho hk
 ·rename_i t m k ok ho;exact Ah hty hd ho hk
 ·rename_i t m k v ho;exact nW hty (.inl ho) (hst2 _ _ _ _ (.inl ho)) hk
 ·rename_i t m k v ho;exact nW hty (.inr ho) (hst2 _ _ _ _ (.inr ho)) hk
 ·rename_i t x ho;exact Ge hty hd ho hk
 ·rename_i op t x t' ho;exact Gw hty hd ho hk
 ·rename_i op t x y t' _ ho;exact G1 hty hd ho hk
 ·exact hk.elim
end
section
variable {P:Program} {ty:Nat->Option TI} {n:Nat} {o:Oper} {e:Env} {h:Heap} {K:AK}
end
section
variable {P:Program} {ty:Nat->Option TI} {n:Nat}
theorem P7 {g w dom ow} {b:Bool} {v:Value} (r:aH g w dom ow v (.wM b)):wz b v:=by
 cases r with
 |wM _ _ _ h=>exact h
theorem Ql (d:Nat) {t:TypeId} {ms:Array (String×TypeId)} (hu:P.underlying t=some (.interface ms)) {b:Bool} {v:Value} (w:World) (hv:wz b v):(Op.equalIn (d+1) t v .nilIface).run P w=.ok (!b) w:=by
 cases b with
 |false=>
  have:v=.nilIface:=hv;subst this;simp only[Op.equalIn,Sem.run_bind,run_underlying hu,Result.andThen_ok,Sem.run_pure];rfl
 |true=>
  obtain⟨T,y,rfl⟩:=hv;simp only[Op.equalIn,Sem.run_bind,run_underlying hu,Result.andThen_ok,Sem.run_pure];rfl
theorem Gd (hty:bB P ty) {o:Oper} {e:Env} {h:Heap} {K:AK} (hd:∀d,o.dst=some d->d<n) {op:BinOp} {t t':TypeId} {x:Operand} {b:Bool} (hx:ev e x=.wM b) (hk:(match gE ty t,op with|true,.eql=>ret o (.p (.b (!b))) K|true,.neq=>ret o (.p (.b b)) K|_,_=>ah "binOp iface")) (ho:o.op=.binOp op t x (.const .nilIface) t'):∃f,K f/\cJ P n o e h f:=by
 have m1:x∈o.op.operands:=by simp[ho,Op.operands]
 have hu:gE ty t=true->∃ms,P.underlying t=some (.interface ms):=by
  intro hb;unfold gE at hb;split at hb
  ·rename_i i hi
   split at hb
   ·rename_i ms hdd;exact⟨ms,by rw[<-hdd];exact(hty t i hi).und⟩
   ·cases hb
  ·cases hb
 have heq:gE ty t=true->∀(v:Value) (w:World),wz b v->(Op.equal t v .nilIface).run P w=.ok (!b) w:=by
  intro h1 v w hv;obtain⟨ms,hu⟩:=hu h1;exact Ql 9999 hu w hv
 have hgd:∀(v:Value) (w:World),wz b v->(eqGuard op t x (.const .nilIface) v .nilIface).run P w=.ok () w:=by
  intro v w hv
  cases b with
  |false=>
   have:v=.nilIface:=hv;subst this;unfold eqGuard;cases op<;>simp
  |true=>
   obtain⟨T,y,rfl⟩:=hv;unfold eqGuard;cases op<;>simp
 have fin:∀(q:Bool),ret o (.p (.b q)) K->(∀(v:Value) (w:World),wz b v->(eqGuard op t x (.const .nilIface) v .nilIface).run P w=.ok () w->(binOp op t v .nilIface).run P w=.ok (.bool q) w)->∃f,K f/\cJ P n o e h f:=by
  intro q hq hb;refine aI hd hq fun e' h' he g w a s=>?_;obtain⟨_,r1⟩:=s.cR he m1 hx;have hv:=P7 r1
  ·refine⟨.bool q,?_,fun d _=>.p _ _ _ (.b _)⟩
   have:=hb _ w hv (hgd _ w hv);have hc:a.eval (.const .nilIface)=.nilIface:=rfl;simp only[execOp,ho,hc,Sem.run_bind,hgd _ w hv,Result.andThen_ok,this,Sem.run_pure]
 cases hI:gE ty t with
 |false=>rw[hI]at hk;cases op<;>exact hk.elim
 |true=>
  rw[hI]at hk
  cases op<;>first|exact hk.elim|skip
  ·exact fin _ hk (by intro v w hv _;simp[binOp,heq hI _ _ hv])
  ·exact fin _ hk (by intro v w hv _;simp[binOp,heq hI _ _ hv])
theorem FK (hty:bB P ty) {mv:Nat->Bool} {o:Oper} {e:Env} {h:Heap} {K:AK} (hd:∀d,o.dst=some d->d<n) (hst:∀t x y,o.op=.store t x y->o.dst=none) (hst2:∀t m k v,o.op=.mapUpdate t m k v\/o.op=.insert t m k v->o.dst=none) (hk:LZ ty (cU P) mv o e h K):∃f,K f/\cJ P n o e h f:=by
 unfold LZ at hk;split at hk
 ·rename_i t ho;exact vZ hd (.inl ho) hk
 ·rename_i x hx ho;exact rR hd (.inl ho) (fun t q=>hx t q) hk
 ·rename_i t ho;exact vZ hd (.inr ho) hk
 ·rename_i x hx ho;exact rR hd (.inr ho) (fun t q=>hx t q) hk
 ·rename_i c x y ho
  split at hk
  ·rename_i gd hc;exact Dk hd ho hc hk
  ·exact hk.elim
 ·rename_i t ho;exact Cy hty hd ho hk
 ·rename_i t x ho;exact GP hd ho hk
 ·rename_i t parts ho;exact Cg hty hd ho hk
 ·rename_i t len parts ho;exact tV hty hd ho hk
 ·rename_i t x ho;exact Dg hty hd ho hk
 ·rename_i t x y ho;exact CW hty ho (hst _ _ _ ho) hk
 ·rename_i x ho;exact FX hd ho hk
 ·rename_i op t x t' ho
  split at hk
  ·rename_i b hx;exact Gd hty hd hx hk ho
  ·exact hk.elim
 ·rename_i op t x y t' _ ho;exact Fo hty hd ho hk
 ·rename_i op t x ho;exact Jy hd ho hk
 ·rename_i src dst x ho;exact DB hty hd ho hk
 ·rename_i f first caps ho;exact Eh hd ho hk
 ·rename_i t st lo ho
  split at hk
  ·rename_i sz xs hx;exact Al hty hd ho hx hk
  ·exact oo hty hd ho hk
 ·rename_i t st u ho
  split at hk
  ·rename_i l hx;exact As hty hd ho hx hk
  ·exact oo hty hd ho hk
 ·rename_i t x lo hi _ _ ho;exact oo hty hd ho hk
 ·rename_i s x f ho;exact vg hty hd ho hk
 ·rename_i t x f ho
  exact B6 hty hd ho hk
 ·rename_i t x ix ho;exact vi hty hd ho hk
 ·rename_i x m ho;exact yb hd ho hk
 ·rename_i x t ts ho;exact GW hty hd ho hk
 ·rename_i x y t t2 ho;exact Ai hty hd ho hk
 ·rename_i x y ts ho;exact Gn hd ho hk
 ·rename_i x y ts ho;exact FG hd ho hk
 ·rename_i x y z ts ho;exact D4 hd ho hk
 ·rename_i x as ts ho
  split at hk
  ·rename_i f first caps hx;exact wg hd (.value x ho hx) hk
  ·exact hk.elim
 ·rename_i x name as ts ho
  split at hk
  ·rename_i T y hx
   split at hk
   ·rename_i f hm;exact wg hd (.invoke x name T y ho hx (Dl hty hm) rfl rfl) hk
   ·exact hk.elim
  ·exact hk.elim
 ·rename_i t x y ho;exact vN hty hd ho hk
 ·rename_i t x ix ho;exact CL hty hd ho hk
 ·exact hk.elim
theorem ry (hty:bB P ty) {mv:Nat->Bool} {o:Oper} {e:Env} {h:Heap} {K:AK} (hd:∀d,o.dst=some d->d<n) (hst:∀t x y,o.op=.store t x y->o.dst=none) (hst2:∀t m k v,o.op=.mapUpdate t m k v\/o.op=.insert t m k v->o.dst=none) (hk:Nl ty (cU P) mv o e h K):∃f,K f/\cJ P n o e h f:=by
 unfold Nl at hk;split at hk
 ·exact Gq hty hd hst hst2 hk
 ·exact FK hty hd hst hst2 hk
end
section
variable {P:Program} {ty:Nat->Option TI} {n:Nat}
theorem Oper.xS {o:Oper} {a:Act} {w:World} {K:Act->World->Prop} {Q:Exit->Act->World->Prop} (hh:o.wp P a w K (fun _ _ _=>False)):o.wp P a w K Q:=by
 unfold Oper.wp at *;generalize (execOp a.eval o).run P w=r at *
 cases r with
 |ok m w'=>
  cases m<;>simp only[Oper.upon]at hh ⊢ <;>
   first
    |exact hh
    |exact Calls.mono hh (fun e w'' he=>by
      cases e with
      |returned v=>exact he
      |panicked c=>exact he.elim
      |outgrown=>obtain⟨_,_,q⟩:=he;exact q.elim)
 |halt x w'=>cases x<;>simp only[Oper.upon]at hh ⊢<;>exact hh.elim
def oD (n:Nat) (o:Oper):Bool:=(match o.dst with|some d=>Nat.blt d n|none=>true)&&(match o.op,o.dst with|.store ..,some _=>false|.mapUpdate ..,some _=>false|.insert ..,some _=>false|_,_=>true)
theorem lN {n:Nat} {o:Oper} (h:oD n o=true):∀d,o.dst=some d->d<n:=by
 intro d hd;simp only[oD,hd,Bool.and_eq_true]at h;exact Nat.blt_eq ▸ h.1|>fun q=>by simpa using q
theorem oW {n:Nat} {o:Oper} (h:oD n o=true):∀t x y,o.op=.store t x y->o.dst=none:=by
 intro t x y ho
 cases hd:o.dst with
 |none=>rfl
 |some d=>simp[oD,ho,hd]at h
theorem uM {n:Nat} {o:Oper} (h:oD n o=true):∀t m k v,o.op=.mapUpdate t m k v\/o.op=.insert t m k v->o.dst=none:=by
 intro t m k v ho;simp only[oD,Bool.and_eq_true]at h
 cases hd:o.dst with
 |none=>rfl
 |some d=>rcases ho with ho|ho<;>(rw[ho,hd]at h;simp at h)
theorem lI:∀(r e:Env) (K:Env->Prop),x8 r e K=K (r.reverse++e)
 | [],e,K=>rfl
 |(d,v)::r,e,K=>by rw[x8,lI r];simp
theorem lD:∀(r e:Heap) (K:Heap->Prop),yh r e K=K (r.reverse++e)
 | [],e,K=>rfl
 |(d,v)::r,e,K=>by rw[yh,lD r];simp
theorem zc {ops:Array Oper} {j d:Nat} {og:Oper} {a:Act} {b:Bool} (ho:ops[j]?=some og) (hd:og.dst=some d) (hv:a.tmps.getD d undef=.bool b):yielded ops a.tmps j=some b:=by
 have hin:a.tmps[d]?=some (.bool b):=by
  rw[Array.getD_eq_getD_getElem?]at hv
  cases hq:a.tmps[d]? with
  |none=>rw[hq]at hv;simp[undef]at hv
  |some v=>rw[hq]at hv;simp at hv;rw[hv]
 simp[yielded,ho,hd,hin]
theorem aH.Pd {g:Gh} {w:World} {dom:Nat->Prop} {ow:Option bg}:aH g w dom ow undef (.cI []):=.cI _ [] [] rfl (by simp)
theorem aH.IB {g:Gh} {w:World} {dom:Nat->Prop} {ow:Option bg} {v:Value} (r:aH g w dom ow v (.cI [])):v=undef:=by
 cases r with
 |cI _ vs _ hl _=>have:vs=[]:=List.eq_nil_of_length_eq_zero (by simpa using hl);subst this;rfl
theorem uK {ops:Array Oper} {j d:Nat} {og:Oper} {a:Act} (ho:ops[j]?=some og) (hd:og.dst=some d) (hv:a.tmps.getD d undef=undef):yielded ops a.tmps j=none:=by
 cases hq:a.tmps[d]? with
 |none=>simp[yielded,ho,hd,hq]
 |some v=>
  rw[Array.getD_eq_getD_getElem?,hq]at hv;simp at hv;subst hv;simp[yielded,ho,hd,hq,undef]
theorem wI {ops:Array Oper} {o:Oper} {e:Env} {S X:Env->Prop} (hg:guardOf ops.toList o e S X) {g:Gh} {w:World} {a:Act} {h:Heap} (s:cw g w n a e h):
 (Region.wanted o (yielded ops a.tmps)=true/\∃e1,X e1/\∀i,aL e1 i=aL e i)\/(Region.wanted o (yielded ops a.tmps)=false/\∃e1,S e1/\∀i,aL e1 i=aL e i):=by
 unfold guardOf at hg;split at hg
 ·rename_i hn;exact .inl ⟨by simp[Region.wanted,hn],e,hg,fun _=>rfl⟩
 ·rename_i j want hn
  split at hg
  ·rename_i og hog
   split at hg
   ·rename_i d hd
    split at hg
    ·rename_i b hb
     have hv:=s.env d;rw[hb]at hv;have hy:=zc (by simpa using hog) hd hv.bool
     have hsame:∀i,aL ((d,AV.p (.b b))::e) i=aL e i:=fun i=>by
      by_cases q:d=i
      ·subst q;rw[bA,hb]
      ·rw[bO q]
     have hw:Region.wanted o (yielded ops a.tmps)=(some b==some want):=by simp[Region.wanted,hn,hy]
     cases b<;>cases want<;>simp only[mq]at hg
     ·exact .inl ⟨by rw[hw];rfl,_,hg,hsame⟩
     ·exact .inr ⟨by rw[hw];rfl,_,hg,hsame⟩
     ·exact .inr ⟨by rw[hw];rfl,_,hg,hsame⟩
     ·exact .inl ⟨by rw[hw];rfl,_,hg,hsame⟩
    ·rename_i hb
     have hv:=s.env d;rw[hb]at hv;have hy:=uK (by simpa using hog) hd hv.IB;exact .inr ⟨by simp[Region.wanted,hn,hy],e,hg,fun _=>rfl⟩
    ·exact hg.elim
   ·exact hg.elim
  ·exact hg.elim
def C9 (n:Nat) (K:Exit->Env->Heap->Prop) (g0:Gh) (w0:World):Exit->Act->World->Prop:=fun x a w=>∃g e h,K x e h/\cw g w n a e h/\Ext g0 w0 g w
theorem lV (hty:bB P ty) {ops:Array Oper} (hok:ops.toList.all (oD n)=true) {K:Exit->Env->Heap->Prop} {g0:Gh} {w0:World}:∀(l:List Oper) (k:Nat) (e:Env) (h:Heap) (g:Gh) (w:World) (a:Act),
 (∀j,l[j]?=ops[k+j]?)->Ae ty (cU P) ops.toList l e h (fun e h=>K .normal e h)->cw g w n a e h->Ext g0 w0 g w->wpOps P ops (C9 n K g0 w0) (List.range' k l.length) a w
 | [],k,e,h,g,w,a,_,hk,s,hE=>⟨g,e,h,hk,s,hE⟩
 |o::r,k,e,h,g,w,a,hl,hk,s,hE=>by
  have ho:ops[k]?=some o:=by have:=hl 0;simpa using this.symm
  have hmem:o∈ops.toList:=by rw[<-Array.getElem?_toList]at ho;exact List.mem_of_getElem? ho
  have hoko:oD n o=true:=List.all_eq_true.1 hok o hmem;have hrest:∀j,r[j]?=ops[k+1+j]?:=fun j=>by have:=hl (j+1);rw[show k+1+j=k+(j+1) by omega,<-this];simp
  simp only[List.length_cons,List.range'_succ];rw[wpOps_cons];simp only[wpOp,ho];rw[qS]at hk;rcases wI hk s with⟨hw,e1,hk,hee⟩|⟨hw,e1,hk,hee⟩
  ·rw[if_pos hw]
   left
   obtain⟨f,hk,hop⟩:=ry hty (lN hoko) (oW hoko) (uM hoko) hk;simp only[lI,lD]at hk;have s1:=s.uN hee;refine Oper.xS (Oper.wp_mono ?_ (hop e1 h (fun _ _=>rfl) (fun _ _=>rfl) g w a s1));rintro a' w' ⟨g',s',hE'⟩;exact lV hty hok r (k+1) _ _ g' w' a' hrest hk s' (hE.trans hE')
  ·rw[if_neg (by rw[hw];simp)]
   have s1:=s.uN hee;unfold yR at hk;split at hk
   ·rename_i d hd
    rw[hd];exact lV hty hok r (k+1) _ _ g w _ hrest hk (s1.put (lN hoko d hd) aH.Pd) hE
   ·rename_i hd
    rw[hd];exact lV hty hok r (k+1) _ _ g w _ hrest hk s1 hE
def fW:List Env->(Nat->Bool)->Nat->Env->Env
 | [],_,_,e=>e
 |W::r,L,k,e=>fW r L (k+1) (if L k then W.reverse++e else e)
def dz:List Heap->(Nat->Bool)->Nat->Heap->Heap
 | [],_,_,e=>e
 |W::r,L,k,e=>dz r L (k+1) (if L k then W.reverse++e else e)
theorem eU (W e:Env) (i:Nat) (h:∀x∈W,x.1≠i):aL (W++e) i=aL e i:=by
 induction W with
 |nil=>rfl
 |cons x r ih=>
  obtain⟨d,v⟩:=x;rw[List.cons_append,bO (h (d,v) (by simp))];exact ih (fun y hy=>h y (by simp[hy]))
theorem cX (W e:Heap) (i:Nat) (h:∀x∈W,x.1≠i):aF (W++e) i=aF e i:=by
 induction W with
 |nil=>rfl
 |cons x r ih=>
  obtain⟨d,v⟩:=x;rw[List.cons_append,aT (h (d,v) (by simp))];exact ih (fun y hy=>h y (by simp[hy]))
theorem nC (W e e':Env) (i:Nat) (h:∃x∈W,x.1=i):aL (W++e) i=aL (W++e') i:=by
 induction W with
 |nil=>obtain⟨x,hx,_⟩:=h;cases hx
 |cons x r ih=>
  obtain⟨d,v⟩:=x
  by_cases q:d=i
  ·subst q;rw[List.cons_append,List.cons_append,bA,bA]
  ·rw[List.cons_append,List.cons_append,bO q,bO q]
   obtain⟨y,hy,hyi⟩:=h;rcases List.mem_cons.1 hy with rfl|hy
   ·exact absurd hyi q
   ·exact ih ⟨y,hy,hyi⟩
theorem jA (W e e':Heap) (i:Nat) (h:∃x∈W,x.1=i):aF (W++e) i=aF (W++e') i:=by
 induction W with
 |nil=>obtain⟨x,hx,_⟩:=h;cases hx
 |cons x r ih=>
  obtain⟨d,v⟩:=x
  by_cases q:d=i
  ·subst q;rw[List.cons_append,List.cons_append,aQ,aQ]
  ·rw[List.cons_append,List.cons_append,aT q,aT q]
   obtain⟨y,hy,hyi⟩:=h;rcases List.mem_cons.1 hy with rfl|hy
   ·exact absurd hyi q
   ·exact ih ⟨y,hy,hyi⟩
theorem jH (i:Nat):∀(ws:List Env) (L L':Nat->Bool) (k:Nat) (e e':Env),aL e i=aL e' i->(∀j W,ws[j]?=some W->(∃x∈W,x.1=i)->L (k+j)=L' (k+j))->aL (fW ws L k e) i=aL (fW ws L' k e') i
 | [],L,L',k,e,e',h,_=>h
 |W::r,L,L',k,e,e',h,hw=>by
  rw[fW,fW];refine jH i r L L' (k+1) _ _ ?_ (fun j W' hj hx=>by have:=hw (j+1) W' (by simpa using hj) hx;rw[show k+1+j=k+(j+1) by omega];exact this)
  by_cases hx:∃x∈W,x.1=i
  ·have h0:=hw 0 W rfl hx
   simp only[Nat.add_zero]at h0;rw[h0];split
   ·obtain⟨x,hx1,hx2⟩:=hx
    exact nC _ _ _ _ ⟨x,by simpa using hx1,hx2⟩
   ·exact h
  ·have hn:∀x∈W.reverse,x.1≠i:=fun x hx1 q=>hx ⟨x,by simpa using hx1,q⟩
   split<;>split
   ·rw[eU _ _ _ hn,eU _ _ _ hn];exact h
   ·rw[eU _ _ _ hn];exact h
   ·rw[eU _ _ _ hn];exact h
   ·exact h
theorem gw (i:Nat):∀(ws:List Heap) (L L':Nat->Bool) (k:Nat) (e e':Heap),aF e i=aF e' i->(∀j W,ws[j]?=some W->(∃x∈W,x.1=i)->L (k+j)=L' (k+j))->aF (dz ws L k e) i=aF (dz ws L' k e') i
 | [],L,L',k,e,e',h,_=>h
 |W::r,L,L',k,e,e',h,hw=>by
  rw[dz,dz];refine gw i r L L' (k+1) _ _ ?_ (fun j W' hj hx=>by have:=hw (j+1) W' (by simpa using hj) hx;rw[show k+1+j=k+(j+1) by omega];exact this)
  by_cases hx:∃x∈W,x.1=i
  ·have h0:=hw 0 W rfl hx
   simp only[Nat.add_zero]at h0;rw[h0];split
   ·obtain⟨x,hx1,hx2⟩:=hx
    exact jA _ _ _ _ ⟨x,by simpa using hx1,hx2⟩
   ·exact h
  ·have hn:∀x∈W.reverse,x.1≠i:=fun x hx1 q=>hx ⟨x,by simpa using hx1,q⟩
   split<;>split
   ·rw[cX _ _ _ hn,cX _ _ _ hn];exact h
   ·rw[cX _ _ _ hn];exact h
   ·rw[cX _ _ _ hn];exact h
   ·exact h
theorem JE (i m:Nat):∀(ws:List Env) (L:Nat->Bool) (k:Nat) (e:Env) (W:Env) (X:Env),ws[m]?=some W->(∃x∈W,x.1=i)->L (k+m)=true->(∀j W',m<j->ws[j]?=some W'->(∃x∈W',x.1=i)->L (k+j)=false)->
 aL (fW ws L k e) i=aL (W.reverse++X) i:=by
 induction m with
 |zero=>
  intro ws L k e W X hm hx hL hafter
  cases ws with
  |nil=>simp at hm
  |cons W0 r=>
   simp at hm;subst hm;rw[fW];simp only[Nat.add_zero]at hL;rw[if_pos hL]
   rw[jH i r L (fun _=>false) (k+1) _ (W0.reverse++X) (by obtain⟨x,hx1,hx2⟩:=hx;exact nC _ _ _ _ ⟨x,by simpa using hx1,hx2⟩) (fun j W' hj hx'=>by
    have:=hafter (j+1) W' (by omega) (by simpa using hj) hx';rw[show k+1+j=k+(j+1) by omega];exact this)]
   generalize W0.reverse++X=Y;clear hafter hL hx;generalize k+1=k'
   induction r generalizing k' with
   |nil=>rfl
   |cons W1 r ih=>rw[fW];simp only[Bool.false_eq_true,if_false];exact ih (k'+1)
 |succ m ih=>
  intro ws L k e W X hm hx hL hafter
  cases ws with
  |nil=>simp at hm
  |cons W0 r=>
   simp at hm;rw[fW]
   exact ih r L (k+1) _ W X hm hx (by rw[show k+1+m=k+(m+1) by omega];exact hL) (fun j W' hj hjw hx'=>by
    have:=hafter (j+1) W' (by omega) (by simpa using hjw) hx';rw[show k+1+j=k+(j+1) by omega];exact this)
theorem xU (i m:Nat):∀(ws:List Heap) (L:Nat->Bool) (k:Nat) (e:Heap) (W:Heap) (X:Heap),ws[m]?=some W->(∃x∈W,x.1=i)->L (k+m)=true->(∀j W',m<j->ws[j]?=some W'->(∃x∈W',x.1=i)->L (k+j)=false)->
 aF (dz ws L k e) i=aF (W.reverse++X) i:=by
 induction m with
 |zero=>
  intro ws L k e W X hm hx hL hafter
  cases ws with
  |nil=>simp at hm
  |cons W0 r=>
   simp at hm;subst hm;rw[dz];simp only[Nat.add_zero]at hL;rw[if_pos hL]
   rw[gw i r L (fun _=>false) (k+1) _ (W0.reverse++X) (by obtain⟨x,hx1,hx2⟩:=hx;exact jA _ _ _ _ ⟨x,by simpa using hx1,hx2⟩) (fun j W' hj hx'=>by
    have:=hafter (j+1) W' (by omega) (by simpa using hj) hx';rw[show k+1+j=k+(j+1) by omega];exact this)]
   generalize W0.reverse++X=Y;clear hafter hL hx;generalize k+1=k'
   induction r generalizing k' with
   |nil=>rfl
   |cons W1 r ih=>rw[dz];simp only[Bool.false_eq_true,if_false];exact ih (k'+1)
 |succ m ih=>
  intro ws L k e W X hm hx hL hafter
  cases ws with
  |nil=>simp at hm
  |cons W0 r=>
   simp at hm;rw[dz]
   exact ih r L (k+1) _ W X hm hx (by rw[show k+1+m=k+(m+1) by omega];exact hL) (fun j W' hj hjw hx'=>by
    have:=hafter (j+1) W' (by omega) (by simpa using hjw) hx';rw[show k+1+j=k+(j+1) by omega];exact this)
end
section
variable {P:Program} {ty:Nat->Option TI} {n:Nat}
def iP (all:List Oper) (o:Oper) (e:Env):Option Bool:=match o.guard with
 |none=>some true
 |some (j,want)=>match all[j]? with
  |some og=>match og.dst with
   |some d=>match aL e d with
    |.p (.b g)=>some (g==want)
    |.cI []=>some false
    |_=>none
   |none=>none
  |none=>none
def gu (P:Program) (n:Nat) (all:List Oper) (o:Oper) (e:Env) (h:Heap):Option eB->Prop
 |some f=>iP all o e=some true/\cJ P n o e h f
 |none=>iP all o e=some false
theorem oY {all:List Oper} {o:Oper} {e e':Env} (h:∀i∈iW all o,aL e' i=aL e i):iP all o e'=iP all o e:=by
 unfold iP;unfold iW at h
 cases hg:o.guard with
 |none=>rfl
 |some x=>
  obtain⟨j,want⟩:=x;simp only[hg]at h ⊢
  cases ha:all[j]? with
  |none=>rfl
  |some og=>
   simp only[ha]at h ⊢
   cases hd:og.dst with
   |none=>rfl
   |some d=>simp only[hd]at h ⊢;rw[h d (by simp)]
theorem gu.congr {all:List Oper} {o:Oper} {e e':Env} {h h':Heap} {f:Option eB} (hs:gu P n all o e h f) (he:∀i∈slotsOf o++iW all o,aL e' i=aL e i) (hh:∀l∈Nq f,aF h' l=aF h l):gu P n all o e' h' f:=by
 have hg:iP all o e'=iP all o e:=oY (fun i hi=>he i (List.mem_append_right _ hi))
 cases f with
 |none=>simp only[gu]at *;rw[hg];exact hs
 |some f=>
  simp only[gu]at *;refine⟨by rw[hg];exact hs.1,fun e2 h2 he2 hh2=>hs.2 e2 h2 (fun t ht=>(he2 t ht).trans (he t (by simp[ht]))) (fun l hl=>(hh2 l hl).trans (hh l hl))⟩
inductive Path (P:Program) (n:Nat) (all:List Oper):List Oper->Env->Heap->List (Option eB)->Prop
 |nil (e:Env) (h:Heap):Path P n all [] e h []
 |cons (o:Oper) (r:List Oper) (e:Env) (h:Heap) (f:Option eB) (fs:List (Option eB)) (h0:gu P n all o e h f) (h1:Path P n all r ((yj o f).reverse++e) ((rC f).reverse++h) fs):Path P n all (o::r) e h (f::fs)
def xC (l:List Oper) (fs:List (Option eB)):List Env:=List.zipWith yj l fs
def vq (fs:List (Option eB)):List Heap:=fs.map rC
theorem mO (W:Env) {e e':Env} (h:∀i,aL e i=aL e' i) (i:Nat):aL (W++e) i=aL (W++e') i:=by
 induction W with
 |nil=>exact h i
 |cons x r ih=>
  obtain⟨d,v⟩:=x
  by_cases q:d=i
  ·subst q;rw[List.cons_append,List.cons_append,bA,bA]
  ·rw[List.cons_append,List.cons_append,bO q,bO q];exact ih
theorem uA (W:Heap) {e e':Heap} (h:∀i,aF e i=aF e' i) (i:Nat):aF (W++e) i=aF (W++e') i:=by
 induction W with
 |nil=>exact h i
 |cons x r ih=>
  obtain⟨d,v⟩:=x
  by_cases q:d=i
  ·subst q;rw[List.cons_append,List.cons_append,aQ,aQ]
  ·rw[List.cons_append,List.cons_append,aT q,aT q];exact ih
theorem Gb {all:List Oper} {o:Oper} {e:Env} {S X:Env->Prop} (hg:guardOf all o e S X):
 (iP all o e=some true/\∃e1,X e1/\∀i,aL e1 i=aL e i)\/(iP all o e=some false/\∃e1,S e1/\∀i,aL e1 i=aL e i):=by
 unfold guardOf at hg;split at hg
 ·rename_i hn;exact .inl ⟨by simp[iP,hn],e,hg,fun _=>rfl⟩
 ·rename_i j want hn
  split at hg
  ·rename_i og hog
   split at hg
   ·rename_i d hd
    split at hg
    ·rename_i b hb
     have hsame:∀i,aL ((d,AV.p (.b b))::e) i=aL e i:=fun i=>by
      by_cases q:d=i
      ·subst q;rw[bA,hb]
      ·rw[bO q]
     have hw:iP all o e=some (b==want):=by simp[iP,hn,hog,hd,hb]
     cases b<;>cases want<;>simp only[mq]at hg
     ·exact .inl ⟨by rw[hw];rfl,_,hg,hsame⟩
     ·exact .inr ⟨by rw[hw];rfl,_,hg,hsame⟩
     ·exact .inr ⟨by rw[hw];rfl,_,hg,hsame⟩
     ·exact .inl ⟨by rw[hw];rfl,_,hg,hsame⟩
    ·rename_i hb;exact .inr ⟨by simp[iP,hn,hog,hd,hb],e,hg,fun _=>rfl⟩
    ·exact hg.elim
   ·exact hg.elim
  ·exact hg.elim
theorem sn (hty:bB P ty) {all:List Oper} {K:Env->Heap->List (Option eB)->Prop}:∀(l:List Oper) (e:Env) (h:Heap) (rs:List (Option eB)) (e2:Env) (h2:Heap),(∀o∈l,oD n o=true)->
 zG ty (cU P) all l e h rs K->(∀i,aL e2 i=aL e i)->(∀i,aF h2 i=aF h i)->
 ∃fs e' h',Path P n all l e2 h2 fs/\fs.length=l.length/\K e' h' (fs.reverse++rs)/\(∀i,aL e' i=aL (fW (xC l fs) (fun _=>true) 0 e2) i)/\(∀i,aF h' i=aF (dz (vq fs) (fun _=>true) 0 h2) i)
 | [],e,h,rs,e2,h2,_,hk,he,hh=>⟨[],e,h,.nil e2 h2,rfl,hk,fun i=>(he i).symm,fun i=>(hh i).symm⟩
 |o::r,e,h,rs,e2,h2,hok,hk,he,hh=>by
  have envShift:∀(ws:List Env) (k k':Nat) (e:Env),fW ws (fun _=>true) k e=fW ws (fun _=>true) k' e:=by
   intro ws
   induction ws with
   |nil=>intros;rfl
   |cons W r ih=>intro k k' e;rw[fW,fW];exact ih _ _ _
  have heapShift:∀(ws:List Heap) (k k':Nat) (e:Heap),dz ws (fun _=>true) k e=dz ws (fun _=>true) k' e:=by
   intro ws
   induction ws with
   |nil=>intros;rfl
   |cons W r ih=>intro k k' e;rw[dz,dz];exact ih _ _ _
  have hoko:=hok o (by simp);rw[sZ]at hk;rcases Gb hk with⟨hg,e1,hk,hee⟩|⟨hg,e1,hk,hee⟩
  ·obtain⟨f,hk,hop⟩:=ry hty (lN hoko) (oW hoko) (uM hoko) hk
   simp only[lI,lD]at hk;have he12:∀i,aL e2 i=aL e1 i:=fun i=>(he i).trans (hee i).symm;obtain⟨fs,e',h',q1,q2,q3,q4,q5⟩:=sn hty r _ _ _ (f.ew.reverse++e2) (f.hw.reverse++h2) (fun o' ho'=>hok o' (by simp[ho'])) hk (mO _ he12) (uA _ hh);have hst:gu P n all o e2 h2 (some f):=gu.congr (e:=e1) (h:=h) (f:=some f) ⟨by rw[oY (fun i _=>hee i)];exact hg,hop⟩ (fun i _=>he12 i) (fun i _=>hh i);refine⟨some f::fs,e',h',.cons o r e2 h2 (some f) fs hst q1,by simp[q2],by simpa using q3,fun i=>?_,fun i=>?_⟩
   ·rw[q4 i];simp only[xC,List.zipWith_cons_cons,fW,if_true,yj];rw[envShift]
   ·rw[q5 i];simp only[vq,List.map_cons,dz,if_true,rC];rw[heapShift]
  ·have key:zG ty (cU P) all r ((yj o none).reverse++e1) h (none::rs) K:=by
    unfold yR at hk;simp only[yj];split at hk
    ·rename_i d hd;simpa using hk
    ·rename_i hd;simpa using hk
   have he12:∀i,aL e2 i=aL e1 i:=fun i=>(he i).trans (hee i).symm;obtain⟨fs,e',h',q1,q2,q3,q4,q5⟩:=sn hty r _ _ _ ((yj o none).reverse++e2) h2 (fun o' ho'=>hok o' (by simp[ho'])) key (mO _ he12) hh;have hst:gu P n all o e2 h2 none:=gu.congr (e:=e1) (h:=h) (f:=none) (by simp only[gu];rw[oY (fun i _=>hee i)];exact hg) (fun i _=>he12 i) (fun i _=>hh i);refine⟨none::fs,e',h',.cons o r e2 h2 none fs hst q1,by simp[q2],by simpa using q3,fun i=>?_,fun i=>?_⟩
   ·rw[q4 i];simp only[xC,List.zipWith_cons_cons,fW,if_true];rw[envShift]
   ·rw[q5 i];simp only[vq,List.map_cons,dz,if_true,rC,List.reverse_nil,List.nil_append];rw[heapShift]
theorem Path.len {all:List Oper} {l:List Oper} {e:Env} {h:Heap} {fs:List (Option eB)} (hp:Path P n all l e h fs):fs.length=l.length:=by
 induction hp with
 |nil=>rfl
 |cons o r e h f fs h0 h1 ih=>simp[ih]
theorem Path.at {all:List Oper}:∀{l:List Oper} {e:Env} {h:Heap} {fs:List (Option eB)},Path P n all l e h fs->∀(k j:Nat) (o:Oper) (f:Option eB),l[j]?=some o->fs[j]?=some f->
 gu P n all o (fW (xC l fs) (fun i=>decide (i<k+j)) k e) (dz (vq fs) (fun i=>decide (i<k+j)) k h) f:=by
 intro l e h fs hp
 have stopE:∀(ws:List Env) (k m:Nat) (e:Env),m<=k->fW ws (fun i=>decide (i<m)) k e=e:=by
  intro ws
  induction ws with
  |nil=>intros;rfl
  |cons W r ih=>intro k m e hm;rw[fW];simp only[show ¬k<m by omega,decide_false,Bool.false_eq_true,if_false];exact ih _ _ _ (by omega)
 have stopH:∀(ws:List Heap) (k m:Nat) (e:Heap),m<=k->dz ws (fun i=>decide (i<m)) k e=e:=by
  intro ws
  induction ws with
  |nil=>intros;rfl
  |cons W r ih=>intro k m e hm;rw[dz];simp only[show ¬k<m by omega,decide_false,Bool.false_eq_true,if_false];exact ih _ _ _ (by omega)
 induction hp with
 |nil=>intro k j o f ho;simp at ho
 |cons o r e h f fs h0 h1 ih=>
  intro k j o' f' ho hf
  cases j with
  |zero=>
   simp at ho hf;subst ho;subst hf;rw[stopE _ k (k+0) _ (Nat.le_refl k),stopH _ k (k+0) _ (Nat.le_refl k)];exact h0
  |succ j=>
   simp at ho hf;have:=ih (k+1) j o' f' ho hf;simp only[xC,vq,List.zipWith_cons_cons,List.map_cons,fW,dz];simp only[show k<k+(j+1) by omega,decide_true,if_true];rw[show k+(j+1)=k+1+j by omega];exact this
end
end Go.AM
