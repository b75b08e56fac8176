/- Part of a machine over plain values. No conditions. -/
import Derived.Test.YtdmopjgjhfhfdaaGreatDoorAMEqP
import Derived.Test.YtdmopjgjhfhfdaaGreatDoorAMMap2
set_option linter.all false
section
namespace Go.AM
open MapKept
section
variable {P:Program} {ty:Nat→Option TI} {n:Nat} {o:Oper} {e:Env} {h:Heap} {K:AK}
theorem G5:∀{a b:List (PV×PV)},a.map IM=b.map IM→a=b
 | [],[],_=>rfl
 | [],_::_,h=>by simp at h
 |_::_,[],h=>by simp at h
 |(x,y)::r,(x',y')::r',h=>by
  simp only[List.map_cons,List.cons.injEq,IM,PV.agg.injEq,and_true]at h;obtain⟨⟨h1,h2⟩,h3⟩:=h;subst h1;subst h2;rw[G5 h3]
theorem Mo {pk:Bool} {a b:List (PV×PV)} (h:a.map IM=b.map (Of pk)) (hk:∀x∈b,MU pk x.1):a=b∧∀x∈b,uu x.1=some .ks:=by
 cases pk with
 |false=>exact⟨G5 h,hk⟩
 |true=>
  cases b with
  |nil=>cases a with
   |nil=>exact⟨rfl,by simp⟩
   |cons x r=>simp at h
  |cons y r=>cases a with
   |nil=>simp at h
   |cons x r=>simp[Of,IM,Ho]at h
theorem GI:∀{a b:List (PV×PV)},a.map Ho=b.map Ho→a=b
 | [],[],_=>rfl
 | [],_::_,h=>by simp at h
 |_::_,[],h=>by simp at h
 |(x,y)::r,(x',y')::r',h=>by
  simp only[List.map_cons,List.cons.injEq,Ho,PV.agg.injEq,and_true]at h;obtain⟨⟨h1,h2⟩,h3⟩:=h;subst h1;subst h2;rw[GI h3]
theorem Gm {pk:Bool} {a b:List (PV×PV)} (h:a.map Ho=b.map (Of pk)):a=b:=by
 cases pk with
 |true=>exact GI h
 |false=>
  cases b with
  |nil=>cases a with
   |nil=>rfl
   |cons x r=>simp at h
  |cons y r=>cases a with
   |nil=>simp at h
   |cons x r=>simp[Of,IM,Ho]at h
theorem nE.Ox {g:Gh} {w:World} {l sp k C:Nat} (hf:g.σ sp k=none) (hbnd:∀b o,g.own b=some o→b<w.heap.size):nE g w (g.di w.heap.size C l sp k) (World.push w (.map #[] 0)) l sp:=by
 have hp:∀b,b<w.heap.size→(g.di w.heap.size C l sp k).pre b=g.pre b∧(g.di w.heap.size C l sp k).own b=g.own b:=fun b hb=>by simp[Gh.di,Nat.ne_of_lt hb]
 refine⟨rfl,rfl,fun s q a hq=>?_,fun s hs q=>by simp[Gh.di,hs],fun b o v h=>nu (fun b hb=>(hp b hb).1) h,fun b o h1 _=>?_,fun b hb hn=>⟨cD hb,(hp b hb).1,(hp b hb).2.trans hn⟩,fun b cs2 E2 hb=>⟨cs2,E2,by rw[cD (od hb)];exact hb,rfl⟩,fun b o ho=>?_,by rw[fA];omega,rfl,rfl,fun a _=>v8 a⟩
 ·have:¬(s=sp∧q=k):=fun⟨e1,e2⟩=>by subst e1;subst e2;rw[hf]at hq;cases hq
  simp only[Gh.di,if_neg this];exact hq
 ·have hb:=hbnd b o h1
  exact⟨(hp b hb).2.trans h1,(hp b hb).1,cD hb⟩
 ·rw[fA]
  by_cases hb:b=w.heap.size
  ·omega
  ·have:(g.di w.heap.size C l sp k).own b=g.own b:=by simp[Gh.di,hb]
   rw[this]at ho;have:=hbnd b o ho;omega
theorem nE.fJ {g:Gh} {w:World} {l sp A:Nat} {es es':Array MapEntry} {c c':Nat} (hown:g.own A=some (.obj l)) (hb:w.heap[A]?=some (.map es' c')) (hbnd:∀b o,g.own b=some o→b<w.heap.size):nE g w g (World.fJ w A es c) l sp:=
 ⟨rfl,rfl,fun _ _ _ q=>q,fun _ _ _=>rfl,fun _ _ _ hv=>lg hb hv,fun b o h1 h2=>⟨h1,rfl,fe (fun e=>by subst e;rw[hown]at h1;cases h1;exact h2 rfl)⟩,fun b _ hn=>⟨fe (fun e=>by subst e;rw[hown]at hn;cases hn),rfl,hn⟩,
   fun b cs E' hb'=>⟨cs,E',by rw[fe (fun e=>by subst e;rw[hb]at hb';cases hb')];exact hb',rfl⟩,fun b o ho=>by rw[vf];exact hbnd b o ho,by rw[vf];exact Nat.le_refl _,rfl,rfl,fun a _=>zx hb a⟩
theorem yE (hty:bz P ty) (hd:∀d,o.dst=some d→d<n) {t:Nat} (ho:o.op=.makeMap t none) (hk:yD ty o h t K):∃f,K f∧cF P n o e h f:=by
 unfold yD at hk;split at hk
 ·rename_i i d hi hdd
  split at hk
  ·rename_i kt et hde
   split at hk
   ·rename_i j hj
    split at hk
    ·obtain⟨l,sp,nx,sz,M,hg,hk⟩:=dI hk
     split at hk
     ·rename_i hsz
      obtain rfl:sz=0:=Nat.eq_of_beq_eq_true hsz;refine⟨_,hk,fun e' h' he hl g w a s=>?_⟩;have hl0:aG h' l=some (.store t true sp nx 0 M):=(hl l (by simp)).trans hg;have hst:=s.blk hl0
      have hr:(execOp a.eval o).run P w=.ok (.value (.map (some w.heap.size))) (World.push w (.map #[] 0)):=by
       simp only[execOp,ho,Option.map_none,Instr.makeMap,Sem.run_bind,Sem.run_pure,CF,Result.andThen_ok]
      have d1:=nE.Ox (g:=g) (w:=w) (l:=l) (sp:=sp) (k:=nx) (C:=0) (hst.fresh nx (Nat.le_refl _)) s.bnd
      have hblk:uP (g.di w.heap.size 0 l sp nx) (World.push w (.map #[] 0)) (w.heap.size,0) 0 []:=
       .inr ⟨rfl,false,#[],0,[],eF,rfl,⟨rfl,by simp⟩,by simp,rfl,by simp⟩
      have hst2:=hst.add (a:=(w.heap.size,0)) (xs:=[]) d1 (fun p hp=>hp) hst.nodup (by simp[Gh.di]) (fun k hk=>by simp[Gh.di,hk]) (fun k ys b q1 q2=>by
       obtain⟨b',p1,p2,_⟩:=hst.row k ys q1;rw[q2]at p1;cases p1;have hlt:=s.bnd _ _ p2;have hne:b.1≠w.heap.size:=by omega
       exact⟨hne,by simp[Gh.di,hne],by simp[Gh.di,hne],cD hlt⟩) (by simp[Gh.di]) (by simp[Gh.di]) hblk
      obtain⟨s2,hE⟩:=s.dyn hl0 d1 hst2;refine Oper.cj hr ⟨_,?_,hE⟩;rw[hdd];exact s2.put (hd d hdd) (.p _ _ _ (.amp sp nx w.heap.size 0 (by simp[bR,Gh.di])))
     ·exact hk.elim
    ·exact hk.elim
   ·exact hk.elim
  ·exact hk.elim
 ·exact hk.elim
theorem uI (hty:bz P ty) {g:Gh} {w:World} {kt T2 l2 sp2 nx2 sz2 k2:Nat} {j2:TI} {M2:List (Nat×List PV)} (hjd:P.underlying kt=some (.pointer T2)) (hj2:ty T2=some j2) (hz2:Nat.beq j2.size 0=false) (hst:er g w l2 sp2 nx2 sz2 M2) (hsn:sz2≠0) (hk2:(rD k2 M2).isSome=true) {k:Value} (rk:aZ (bR g w) k (.bH sp2 k2)):
 ∀(es:List MapEntry) (xs:List (PV×PV)) (i:Nat),ir (bR g w) es xs→BE sp2 M2 xs→
 (j9 (.bH sp2 k2) xs=none∧(Instr.findAsking kt k es i).run P w=.ok none w)∨∃(j:Nat) (en:MapEntry) (x:PV×PV),(Instr.findAsking kt k es i).run P w=.ok (some (i+j,en.val)) w∧es[j]?=some en∧xs[j]?=some x∧j9 (.bH sp2 k2) xs=some x.2
 | [],xs,i,hr,_=>by
   have:xs=[]:=List.eq_nil_of_length_eq_zero (by simpa using hr.1.symm);subst this;exact .inl ⟨rfl,rfl⟩
 |en::es,[],i,hr,_=>by have:=hr.1;simp at this
 |en::es,x::xs,i,hr,hx=>by
  obtain⟨inf,z,i1,i2,i3,i4,i5,i6⟩:=(hty T2 j2 hj2).inf;have hz0:inf.size≠0:=fun q=>by rw[←i2,q]at hz2;cases hz2
  obtain⟨p1,p2⟩:=hr.2 0 en x rfl rfl;obtain⟨k1,hx1,hq1⟩:=hx x (by simp);rw[hx1]at p1;have htail:ir (bR g w) es xs:=⟨by have:=hr.1;simpa using this,fun j e' x' h1 h2=>hr.2 (j+1) e' x' (by simpa using h1) (by simpa using h2)⟩
  obtain⟨ys1,hys1⟩:=Option.isSome_iff_exists.1 hq1;obtain⟨ys2,hys2⟩:=Option.isSome_iff_exists.1 hk2;obtain⟨A,hA,_,_,va,Ea,hba,_⟩:=hst.D4 hsn k1 ys1 (cW hys1);obtain⟨B,hB,_,_,vb,Eb,hbb,_⟩:=hst.D4 hsn k2 ys2 (cW hys2);have ih:=uI hty hjd hj2 hz2 hst hsn hk2 rk es xs (i+1) htail (fun x hx'=>hx x (by simp[hx']));obtain⟨ek,ev,eb⟩:=en;obtain⟨x1,x2⟩:=x;subst hx1
  cases rk with
  |bH _ _ a2 C2 r2=>
  cases p1 with
  |bH _ _ a1 C1 r1=>
   replace r1:g.σ _ k1=some (a1,C1):=r1;replace r2:g.σ _ k2=some (a2,C2):=r2;rw[hA]at r1;cases r1;rw[hB]at r2;cases r2
   by_cases e1:k2=k1
   ·subst e1
    rw[hA]at hB;cases hB;have hq:(Op.equal kt (.pointer (some ⟨a2,0,none⟩)) (.pointer (some ⟨a2,0,none⟩))).run P w=.ok true w:=qX 9999 hjd i1 _ w;refine .inr ⟨0,_,_,?_,rfl,rfl,?_⟩
    ·simp only[Instr.findAsking,Sem.run_bind,hq,Result.andThen_ok,if_true,Sem.run_pure,Nat.add_zero]
    ·simp[j9,tc]
   ·have hne:a2≠a1:=fun q=>e1 (hst.inj k2 k1 ys2 ys1 _ _ (cW hys2) (cW hys1) hB hA q)
    have hq:(Op.equal kt (.pointer (some ⟨a2,0,none⟩)) (.pointer (some ⟨a1,0,none⟩))).run P w=.ok false w:=pN 9999 hjd i1 hz0 w (fun q=>hne (by cases q;rfl)) hbb hba;have hpv:tc (.bH sp2 k2) (.bH sp2 k1)=false:=beq_false e1
    have hrun:∀r,(Instr.findAsking kt (.pointer (some ⟨a2,0,none⟩)) es (i+1)).run P w=r→(Instr.findAsking kt (.pointer (some ⟨a2,0,none⟩)) (⟨.pointer (some ⟨a1,0,none⟩),ev,eb⟩::es) i).run P w=r:=fun r hr=>by
     simp only[Instr.findAsking,Sem.run_bind,hq,Result.andThen_ok];exact hr
    rcases ih with⟨q1,q2⟩|⟨j,e',x',q1,q2,q3,q4⟩
    ·exact .inl ⟨by simp[j9,hpv,q1],hrun _ q2⟩
    ·exact .inr ⟨j+1,e',x',by rw[show i+(j+1)=i+1+j by omega];exact hrun _ q1,by simpa using q2,by simpa using q3,by simp[j9,hpv,q4]⟩
theorem nL {w:World} {kt T2:Nat} {k:Value} {l:List MapEntry} {r:Option (Nat×Value)} (hd:P.underlying kt=some (.pointer T2)) (h:(Instr.findAsking kt k l 0).run P w=.ok r w):(Instr.findKey kt k l).run P w=.ok r w:=by
 cases l with
 |nil=>cases h;simp[Instr.findKey,run_underlying hd,Result.andThen,Instr.findNow]
 |cons e es=>
  have:Instr.findNow (.pointer T2) k (e::es) 0=none:=by simp[Instr.findNow,Instr.sameNow]
  simp only[Instr.findKey,Sem.run_bind,run_underlying hd,Result.andThen_ok,this];exact h
theorem rq {w:World} {kt T2:Nat} {k:Value} (hd:P.underlying kt=some (.pointer T2)) (b:Bool) (n:Nat):(Instr.checkKey b (n+1) kt k).run P w=.ok () w:=by
 unfold Instr.checkKey;simp only[Sem.run_bind,run_underlying hd,Result.andThen];rfl
theorem EC (hd:∀d,o.dst=some d→d<n) {rd:List Nat} {x:AV} (hk:zO o rd [] x K)
 (hrun:∀e' h',(∀t∈slotsOf o,aL e' t=aL e t)→(∀l∈rd,aG h' l=aG h l)→∀g w a,cp g w n a e' h'→∃v,(execOp a.eval o).run P w=.ok (.value v) w∧∀d:Nat,aH g w (aF h') (some (.slot d)) v x):∃f,K f∧cF P n o e h f:=by
 refine⟨_,xM hk,fun e' h' he hl g w a s=>?_⟩
 have hl':∀l∈rd,aG h' l=aG h l:=fun l hlR=>by
  cases hdst:o.dst<;>simp only[hdst]at hl<;>exact hl l (by simp[hlR])
 obtain⟨v,hr,hv⟩:=hrun e' h' he hl' g w a s;refine Oper.cj hr ⟨g,?_,Ext.refl _ _⟩
 cases hdst:o.dst with
 |none=>exact s
 |some d=>exact s.put (hd d hdst) (hv d)
theorem BW (hty:bz P ty) (hd:∀d,o.dst=some d→d<n) {t T2 s0 q s2 k2 kt et:Nat} {m k:Operand} {ok:Bool} {z:PV} {je:TI} (ho:o.op=.lookup t m k ok) (hu:P.underlying t=some (.map kt et)) (hjd:P.underlying kt=some (.pointer T2)) (hje:ty et=some je) (hz:xy je=some z) (hm:ev e m=.p (.amp s0 q)) (hkp:ev e k=.p (.bH s2 k2)) (hk:F1 ty o h t T2 s0 q s2 k2 ok z K):∃f,K f∧cF P n o e h f:=by
 have m1:m∈o.op.operands:=by simp[ho,Op.operands]
 have m2:k∈o.op.operands:=by simp[ho,Op.operands]
 have lres:∀{g:Gh} {w:World} {dom:Nat→Prop} {ow:Option aY} {v:Value} {x:PV} (b:Bool),aZ (bR g w) v x→aH g w dom ow (if ok then .tuple #[v,.bool b] else v) (wq ok x b):=by
  intro g w dom ow v x b hr
  cases ok with
  |false=>exact .p _ _ _ hr
  |true=>
   refine .cA _ [v,.bool b] [.p x,.p (.b b)] rfl (fun j v' c hv hc=>?_)
   match j with
   |0=>simp at hv hc;subst hv;subst hc;exact .p _ _ _ hr
   |1=>simp at hv hc;subst hv;subst hc;exact .p _ _ _ (.b b)
   |j+2=>simp at hv
 unfold F1 at hk;split at hk
 ·rename_i j2 hj2
  split at hk
  ·rename_i hz2
   obtain⟨l,sp,nx,sz,M,hg,hk⟩:=dI hk;obtain⟨l2,sp2,nx2,sz2,M2,hg2,⟨rfl,hsz,rfl,hsn,hq2⟩,xs,hxs,hin,x,b,hlook,hk⟩:=dI hk;refine EC hd hk fun e' h' he hl' g w a s=>?_;have hst:=s.blk ((hl' l (by simp)).trans hg);have hst2:=s.blk ((hl' l2 (by simp)).trans hg2);obtain⟨_,r1⟩:=s.cN he m1 hm;obtain⟨_,r2⟩:=s.cN he m2 hkp;have r2:=r2.pv;have r1:=r1.pv;generalize hv:a.eval m=v at r1
   cases r1 with
   |amp _ _ A C hA=>
    obtain⟨A',hA',hown,hpre,pk,es,clock,ps,hb,hps,hxx,hc0,hmk⟩:=hst.IL hsz q _ (cW hxs);have hA:g.σ s0 q=some (A,C):=hA;rw[hA]at hA';cases hA';obtain rfl:=Gm hps;have ck:=rq (P:=P) (w:=w) (k:=a.eval k) hjd es.isEmpty 9999;obtain⟨zv,hz1,hz2',_⟩:=pS hty hje hz (bR g w) w;have hb:w.heap[A]?=some (.map es clock):=hb;rcases uI hty hjd hj2 hz2 hst2 hsn hq2 r2 es.toList xs 0 hxx hin with⟨q1,q2⟩|⟨j,en,y,q1,q2,q3,q4⟩
    ·have hf:=nL hjd q2
     rw[pV,q1]at hlook;cases hlook;refine⟨_,?_,fun d=>lres false (v:=zv) hz2'⟩;simp only[execOp,ho,Instr.lookup,Sem.run_bind,run_underlying hu,Result.andThen_ok,hv,run_getObj_map hb,Sem.run_pure,ck,hf,hz1]
    ·have hf:=nL hjd q1
     have hp:=(hxx.2 j en y q2 q3).2;rw[pV,q4]at hlook;cases hlook;refine⟨_,?_,fun d=>lres true (v:=en.val) hp⟩;simp only[execOp,ho,Instr.lookup,Sem.run_bind,run_underlying hu,Result.andThen_ok,hv,run_getObj_map hb,Sem.run_pure,ck,hf]
  ·exact hk.elim
 ·exact hk.elim
theorem CW (hty:bz P ty) {t T2 s0 q s2 k2 kt et:Nat} {m k v:Operand} {vp:PV} {z:List Nat} (ho:o.op=.mapUpdate t m k v∨o.op=.insert t m k v) (hdn:o.dst=none) (hu:P.underlying t=some (.map kt et)) (hjd:P.underlying kt=some (.pointer T2)) (hm:ev e m=.p (.amp s0 q)) (hkp:ev e k=.p (.bH s2 k2)) (hvp:(ev e v).tP z=some vp) (hk:JF ty h t T2 s0 q s2 k2 vp K):∃f,K f∧cF P n o e h f:=by
 have m1:m∈o.op.operands:=by rcases ho with ho|ho<;>simp[ho,Op.operands]
 have m2:k∈o.op.operands:=by rcases ho with ho|ho<;>simp[ho,Op.operands]
 have m3:v∈o.op.operands:=by rcases ho with ho|ho<;>simp[ho,Op.operands]
 have hex:∀(a:Act) (w:World),(execOp a.eval o:Sem Next).run P w=((do Instr.mapUpdate t (a.eval m) (a.eval k) (a.eval v);pure .skip):Sem Next).run P w:=by
  intro a w;rcases ho with ho|ho<;>simp only[execOp,ho]
 unfold JF at hk;split at hk
 ·rename_i j2 hj2
  split at hk
  ·rename_i hz2
   obtain⟨l,sp,nx,sz,M,hg,hk⟩:=dI hk;obtain⟨l2,sp2,nx2,sz2,M2,hg2,⟨rfl,hsz,rfl,hsn,hq2⟩,xs,hxs,⟨hin,hnone⟩,hk⟩:=dI hk;refine⟨_,hk,fun e' h' he hl g w a s=>?_⟩;have hl0:aG h' l=some (.store t true s0 nx sz M):=(hl l (by simp)).trans hg;have hst:=s.blk hl0;have hst2:=s.blk ((hl l2 (by simp)).trans hg2);obtain⟨_,r1⟩:=s.cN he m1 hm;obtain⟨_,r2⟩:=s.cN he m2 hkp;obtain⟨_,r3⟩:=s.cN he m3 rfl;have r2:=r2.pv;have r3:=kL r3 hvp;have r1:=r1.pv;generalize hv:a.eval m=mv at r1
   cases r1 with
   |amp _ _ A C hA=>
    obtain⟨A',hA',hown,hpre,pk,es,clock,ps,hb,hps,hxx,hc0,hmk⟩:=hst.IL hsz q _ (cW hxs);have hA:g.σ s0 q=some (A,C):=hA;rw[hA]at hA';cases hA';obtain rfl:=Gm hps;have hb:w.heap[A]?=some (.map es clock):=hb;have hown:g.own A=some (.obj l):=hown;have ck:=rq (P:=P) (w:=w) (k:=a.eval k) hjd false 9999;rcases uI hty hjd hj2 hz2 hst2 hsn hq2 r2 es.toList xs 0 hxx hin with⟨q1,q2⟩|⟨j,en,y,q1,q2,q3,q4⟩
    ·have hf:=nL hjd q2
     have hr:(execOp a.eval o).run P w=.ok .skip (World.fJ w A (es.push { key:=a.eval k,val:=a.eval v,born:=clock }) (clock+1)):=by
      rw[hex];simp only[Instr.mapUpdate,Sem.run_bind,run_underlying hu,Result.andThen_ok,hv,run_getObj_map hb,ck,hf,run_setObj_map _ hb,Sem.run_pure];rfl
     have hxl:=hxx.1;simp only[Array.length_toList]at hxl;have d1:nE g w g (World.fJ w A (es.push { key:=a.eval k,val:=a.eval v,born:=clock }) (clock+1)) l s0:=nE.fJ hown hb s.bnd
     have hkx:∀x∈xs++[(PV.bH s2 k2,vp)],MU true x.1:=fun x hx=>by
      rcases List.mem_append.1 hx with hx|hx
      ·obtain⟨k',e1,_⟩:=hin x hx;exact⟨_,_,e1⟩
      ·simp at hx;subst hx;exact⟨_,_,rfl⟩
     have hst3:=hst.set (a:=(A,C)) (ys:=(xs++[(PV.bH s2 k2,vp)]).map Ho) d1 hxs hA (fun b hb2=>fe hb2) (.inr ⟨hsz,true,_,clock+1,_,pL hb,rfl,⟨by simp[hxl],fun j p1 p2 p3 p4=>by
      have key:aZ (bR g w) p1.key p2.1∧aZ (bR g w) p1.val p2.2:=by
       simp only[Array.toList_push]at p3
       by_cases hj:j<es.size
       ·rw[List.getElem?_append_left (by simpa using hj)]at p3
        rw[List.getElem?_append_left (by omega)]at p4;exact hxx.2 j p1 p2 p3 p4
       ·rw[List.getElem?_append_right (by simpa using hj)]at p3
        rw[List.getElem?_append_right (by omega)]at p4
        have:j=es.size:=by
         have:=(List.getElem?_eq_some_iff.1 p3).1;simp at this;omega
        subst this;simp at p3;rw[hxl]at p4;simp at p4;subst p3;subst p4;exact⟨r2,r3⟩
      exact⟨key.1.mono fun _ _ _ hv=>lg hb hv,key.2.mono fun _ _ _ hv=>lg hb hv⟩⟩,hkx,hmk.push⟩)
     obtain⟨s3,hE⟩:=s.dyn hl0 d1 hst3;refine Oper.wp_skip hr ⟨g,?_,hE⟩;rw[hdn];exact s3
    ·rw[q4]at hnone;cases hnone
  ·exact hk.elim
 ·exact hk.elim
theorem zY (hty:bz P ty) (hd:∀d,o.dst=some d→d<n) {t:Nat} {m k:Operand} {ok:Bool} (ho:o.op=.lookup t m k ok) (hk:Bq ty o h t (ev e m) (ev e k) ok K):∃f,K f∧cF P n o e h f:=by
 have m1:m∈o.op.operands:=by simp[ho,Op.operands]
 have m2:k∈o.op.operands:=by simp[ho,Op.operands]
 have lres:∀{g:Gh} {w:World} {dom:Nat→Prop} {ow:Option aY} {v:Value} {x:PV} (b:Bool),aZ (bR g w) v x→aH g w dom ow (if ok then .tuple #[v,.bool b] else v) (wq ok x b):=by
  intro g w dom ow v x b hr
  cases ok with
  |false=>exact .p _ _ _ hr
  |true=>
   refine .cA _ [v,.bool b] [.p x,.p (.b b)] rfl (fun j v' c hv hc=>?_)
   match j with
   |0=>simp at hv hc;subst hv;subst hc;exact .p _ _ _ hr
   |1=>simp at hv hc;subst hv;subst hc;exact .p _ _ _ (.b b)
   |j+2=>simp at hv
 unfold Bq at hk;split at hk
 ·rename_i i hi
  split at hk
  ·rename_i kt et hde
   have hu:=(hty t i hi).und;rw[hde]at hu;split at hk
   ·rename_i jk je hjk hje
    have hjd:=(hty kt jk hjk).und;split at hk
    ·rename_i z s0 q s2 k2 hz hm hkp
     split at hk
     ·rename_i T2 hT2
      rw[hT2]at hjd;exact BW hty hd ho hu hjd hje hz hm hkp hk
     ·exact hk.elim
    ·rename_i z s0 q kp _ hz hm hkp
     split at hk
     ·rename_i hka hkb
      obtain⟨l,sp,nx,sz,M,hg,⟨rfl,hsz⟩,xs,hxs,x,b,hlook,hk⟩:=dI hk;refine dy hd hk fun e' h' he hl' g w a s=>?_;have hst:=s.blk (hl'.trans hg);obtain⟨_,r1⟩:=s.cN he m1 hm;obtain⟨_,r2⟩:=s.cN he m2 hkp;have r2:=r2.pv;have r1:=r1.pv;generalize hv:a.eval m=v at r1
      cases r1 with
      |amp _ _ A C hA=>
       obtain⟨A',hA',hown,hpre,pk,es,clock,ps,hb,hps,hxx,hc0,hmk⟩:=hst.IL hsz q _ (cW hxs);have hA:g.σ s0 q=some (A,C):=hA;rw[hA]at hA';cases hA';obtain⟨rfl,hc1⟩:=Mo hps hc0;have hc:=And.intro hc1 hmk;have huk:=(hty kt jk hjk).und;have ck:=run_checkKey (P:=P) (w:=w) huk (tD hka r2 hkb) es.isEmpty 9999;obtain⟨zv,hz1,hz2,_⟩:=pS hty hje hz (bR g w) w;have hb:w.heap[A]?=some (.map es clock):=hb;rcases y8 hka r2 hkb z es.toList xs 0 hxx hc.1 with⟨q1,q2,_⟩|⟨j,en,y,q1,q2,q3,q4,q5,_⟩
       ·have hf:=run_findKey (P:=P) (w:=w) huk q2
        rw[pV,q1]at hlook;cases hlook;refine⟨_,?_,fun d _=>lres false (v:=zv) hz2⟩;simp only[execOp,ho,Instr.lookup,Sem.run_bind,run_underlying hu,Result.andThen_ok,hv,run_getObj_map hb,Sem.run_pure,ck,hf,hz1]
       ·have hf:=run_findKey (P:=P) (w:=w) huk q1
        have hp:=(hxx.2 j en y q2 q3).2;rw[pV,q4]at hlook;cases hlook;refine⟨_,?_,fun d _=>lres true (v:=en.val) hp⟩;simp only[execOp,ho,Instr.lookup,Sem.run_bind,run_underlying hu,Result.andThen_ok,hv,run_getObj_map hb,Sem.run_pure,ck,hf]
     ·exact hk.elim
    ·exact hk.elim
   ·exact hk.elim
  ·exact hk.elim
 ·exact hk.elim
theorem ni (hty:bz P ty) {t:Nat} {m k v:Operand} (ho:o.op=.mapUpdate t m k v∨o.op=.insert t m k v) (hdn:o.dst=none) (hk:nM ty h t (ev e m) (ev e k) (ev e v) K):∃f,K f∧cF P n o e h f:=by
 have m1:m∈o.op.operands:=by rcases ho with ho|ho<;>simp[ho,Op.operands]
 have m2:k∈o.op.operands:=by rcases ho with ho|ho<;>simp[ho,Op.operands]
 have m3:v∈o.op.operands:=by rcases ho with ho|ho<;>simp[ho,Op.operands]
 have hex:∀(a:Act) (w:World),(execOp a.eval o:Sem Next).run P w=((do Instr.mapUpdate t (a.eval m) (a.eval k) (a.eval v);pure .skip):Sem Next).run P w:=by
  intro a w;rcases ho with ho|ho<;>simp only[execOp,ho]
 unfold nM at hk;split at hk
 ·rename_i i hi
  split at hk
  ·rename_i kt et hde
   have hu:=(hty t i hi).und;rw[hde]at hu;split at hk
   ·rename_i jk je hjk hje
    split at hk
    ·rename_i s0 q s2 k2 vp hm hkp hvp
     split at hk
     ·rename_i T2 hT2
      have hjd:=(hty kt jk hjk).und;rw[hT2]at hjd;exact CW hty ho hdn hu hjd hm hkp hvp hk
     ·exact hk.elim
    ·rename_i s0 q kp vp _ hm hkp hvp
     split at hk
     ·rename_i hka hkb
      obtain⟨l,sp,nx,sz,M,hg,⟨rfl,hsz⟩,xs,hxs,hk⟩:=dI hk;refine⟨_,hk,fun e' h' he hl g w a s=>?_⟩;have hl0:aG h' l=some (.store t true s0 nx sz M):=(hl l (by simp)).trans hg;have hst:=s.blk hl0;obtain⟨_,r1⟩:=s.cN he m1 hm;obtain⟨_,r2⟩:=s.cN he m2 hkp;obtain⟨_,r3⟩:=s.cN he m3 rfl;have r2:=r2.pv;have r3:=kL r3 hvp;have r1:=r1.pv;generalize hv:a.eval m=mv at r1
      cases r1 with
      |amp _ _ A C hA=>
       obtain⟨A',hA',hown,hpre,pk,es,clock,ps,hb,hps,hxx,hc0,hmk⟩:=hst.IL hsz q _ (cW hxs);have hA:g.σ s0 q=some (A,C):=hA;rw[hA]at hA';cases hA';obtain⟨rfl,hc1⟩:=Mo hps hc0;have hc:=And.intro hc1 hmk;have hb:w.heap[A]?=some (.map es clock):=hb;have hown:g.own A=some (.obj l):=hown;have huk:=(hty kt jk hjk).und;have ik:=tD hka r2 hkb;have ck:=run_checkKey (P:=P) (w:=w) huk ik false 9999
       have fin:∀(es2:Array MapEntry) (c2:Nat) (ys:List (PV×PV)),(execOp a.eval o).run P w=.ok .skip (World.fJ w A es2 c2)→ir (bR g w) es2.toList ys→(∀x∈ys,uu x.1=some .ks)→me es2 c2→ys=sr kp vp xs→
        o.wp P a w (fun a' w'=>∃g',cp g' w' n a' ([]++e') ([(l,br.store t true s0 nx sz (sset q ((sr kp vp xs).map IM) M))]++h')∧Ext g w g' w') (fun _ _ _=>False):=by
        intro es2 c2 ys hr hx2 hk2 hm2 hys;subst hys;have d1:nE g w g (World.fJ w A es2 c2) l s0:=nE.fJ hown hb s.bnd;have hst2:=hst.set (a:=(A,C)) (ys:=(sr kp vp xs).map IM) d1 hxs hA (fun b hb2=>fe hb2) (.inr ⟨hsz,false,es2,c2,_,pL hb,rfl,⟨hx2.1,fun j p1 p2 p3 p4=>⟨(hx2.2 j p1 p2 p3 p4).1.mono fun _ _ _ hv=>lg hb hv,(hx2.2 j p1 p2 p3 p4).2.mono fun _ _ _ hv=>lg hb hv⟩⟩,hk2,hm2⟩);obtain⟨s2,hE⟩:=s.dyn hl0 d1 hst2;refine Oper.wp_skip hr ⟨g,?_,hE⟩;rw[hdn];exact s2
       rcases y8 hka r2 hkb vp es.toList xs 0 hxx hc.1 with⟨q1,q2,q3⟩|⟨j,en,y,q1,q2,q3,q4,q5,q6⟩
       ·have hf:=run_findKey (P:=P) (w:=w) huk q2
        have hr:(execOp a.eval o).run P w=.ok .skip (World.fJ w A (es.push { key:=a.eval k,val:=a.eval v,born:=clock }) (clock+1)):=by
         rw[hex];simp only[Instr.mapUpdate,Sem.run_bind,run_underlying hu,Result.andThen_ok,hv,run_getObj_map hb,ck,hf,run_setObj_map _ hb,Sem.run_pure];rfl
        refine fin _ _ _ hr ⟨?_,fun j p1 p2 p3 p4=>?_⟩ (fun x hx=>?_) hc.2.push q3.symm
        ·have:=hxx.1;simp at this;simp[this]
        ·have hxl:=hxx.1
         simp only[Array.length_toList]at hxl;simp only[Array.toList_push]at p3
         by_cases hj:j<es.size
         ·rw[List.getElem?_append_left (by simpa using hj)]at p3
          rw[List.getElem?_append_left (by omega)]at p4;exact hxx.2 j p1 p2 p3 p4
         ·rw[List.getElem?_append_right (by simpa using hj)]at p3
          rw[List.getElem?_append_right (by omega)]at p4
          have:j=es.size:=by
           have:=(List.getElem?_eq_some_iff.1 p3).1;simp at this;omega
          subst this;simp at p3;rw[hxl]at p4;simp at p4;subst p3;subst p4;exact⟨r2,r3⟩
        ·rcases List.mem_append.1 hx with hx|hx
         ·exact hc.1 x hx
         ·simp at hx;subst hx;exact hkb
       ·have hf:=run_findKey (P:=P) (w:=w) huk q1
        have hr:(execOp a.eval o).run P w=.ok .skip (World.fJ w A (es.modify (0+j) fun e=>{ e with key:=a.eval k,val:=a.eval v }) clock):=by
         rw[hex]
         have hkey:((es[0+j]?).map (·.key)).getD (a.eval k)=a.eval k:=by
          have:es[0+j]?=some en:=by simpa using q2
          rw[this];simpa using q5
         simp only[Instr.mapUpdate,Sem.run_bind,run_underlying hu,Result.andThen_ok,hv,run_getObj_map hb,ck,hf,hkey,run_keyThatStays ik,run_setObj_map _ hb,Sem.run_pure];rfl
        refine fin _ _ _ hr ⟨?_,fun j' p1 p2 p3 p4=>?_⟩ (fun x hx=>?_) hc.2.modify q6.symm
        ·have:=hxx.1;simp at this;simp[this]
        ·rw[Array.getElem?_toList,Array.getElem?_modify]at p3
         rw[List.getElem?_set]at p4
         by_cases hjj:j=j'
         ·subst hjj
          have hjl:j<xs.length:=(List.getElem?_eq_some_iff.1 q3).1;rw[if_pos rfl,if_pos hjl]at p4;have:es[j]?=some en:=by simpa using q2
          simp[this]at p3;simp at p4;subst p3;subst p4;exact⟨r2,r3⟩
         ·rw[if_neg (by simpa using hjj)]at p3
          rw[if_neg hjj]at p4;exact hxx.2 j' p1 p2 (by simpa using p3) p4
        ·rcases List.mem_or_eq_of_mem_set hx with hx|rfl
         ·exact hc.1 x hx
         ·exact hkb
     ·exact hk.elim
    ·exact hk.elim
   ·exact hk.elim
  ·exact hk.elim
 ·exact hk.elim
theorem EY (hty:bz P ty) (hd:∀d,o.dst=some d→d<n) {t:Nat} {x:Operand} (ho:o.op=.box t x) (hk:M1 ty o h t (ev e x) K):∃f,K f∧cF P n o e h f:=by
 have m1:x∈o.op.operands:=by simp[ho,Op.operands]
 unfold M1 at hk;split at hk
 ·rename_i i d hi hdd
  split at hk
  ·rename_i zs hzs
   obtain⟨l,sp,nx,sz,M,hg,hk⟩:=dI hk;split at hk
   ·rename_i hsz hsz0
    obtain rfl:zs.length=sz:=Nat.eq_of_beq_eq_true hsz;have hpos:0<zs.length:=Nat.pos_of_ne_zero fun q=>by rw[q]at hsz0;cases hsz0
    refine⟨_,hk,fun e' h' he hl g w a s=>?_⟩;have hl0:aG h' l=some (.store t true sp nx zs.length M):=(hl l (by simp)).trans hg;have hst:=s.blk hl0;obtain⟨_,r⟩:=s.cN he m1 rfl;have hpr:aZ (bR g w) (a.eval x) (.agg zs):=kL r hzs;obtain⟨c1,c2,c3⟩:=nK hpr;have c1:(a.eval x).cells.toList.length=zs.length:=c1
    have hr:(execOp a.eval o).run P w=.ok (.value (.pointer (some ⟨w.heap.size,0,none⟩))) (World.push w (.cells (a.eval x).cells t (0,0))):=by
     simp[execOp,ho,Instr.box,newVar,newRow];rfl
    have d1:=nE.push (g:=g) (w:=w) (l:=l) (sp:=sp) (k:=nx) (C:=1) (cs:=(a.eval x).cells) (E:=t) (hst.fresh nx (Nat.le_refl _)) s.bnd
    have hblk:uP (g.di w.heap.size 1 l sp nx) (World.push w (.cells (a.eval x).cells t (0,0))) (w.heap.size,1) zs.length [.agg zs]:=by
     refine .inl ⟨(a.eval x).cells,t,eF,hpos,⟨by simp,by rw[Nat.one_mul,←c1];simp⟩,fun x hx=>by simp at hx;subst hx;rfl,fun j x hj q y hy=>?_⟩;have ej:j=0:=by have:=(List.getElem?_eq_some_iff.1 hj).1;simp at this;exact this
     subst ej;simp at hj;subst hj;have hy:zs[q]?=some y:=hy;have hq:q<zs.length:=(List.getElem?_eq_some_iff.1 hy).1;have hzc:(a.eval x).cells.toList[q]?=some ((a.eval x).cells.toList[q]'(by omega)):=List.getElem?_eq_getElem _;generalize (a.eval x).cells.toList[q]'(by omega)=u at hzc;exact⟨u,by simpa using hzc,c2 u (List.mem_of_getElem? hzc),(c3 q u y hzc hy).mono d1.bR d1.σ⟩
    have hst2:=hst.add (a:=(w.heap.size,1)) (xs:=[.agg zs]) d1 (fun p hp=>hp) hst.nodup (by simp[Gh.di]) (fun k hk=>by simp[Gh.di,hk]) (fun k ys b q1 q2=>by
     obtain⟨b',p1,p2,_⟩:=hst.row k ys q1;rw[q2]at p1;cases p1;have hlt:=s.bnd _ _ p2;have hne:b.1≠w.heap.size:=by omega
     exact⟨hne,by simp[Gh.di,hne],by simp[Gh.di,hne],cD hlt⟩) (by simp[Gh.di]) (by simp[Gh.di]) hblk
    obtain⟨s2,hE⟩:=s.dyn hl0 d1 hst2;refine Oper.cj hr ⟨_,?_,hE⟩;rw[hdd];exact s2.put (hd d hdd) (.p _ _ _ (.bH sp nx w.heap.size 1 (by simp[bR,Gh.di])))
   ·exact hk.elim
  ·exact hk.elim
 ·exact hk.elim
end
end Go.AM
end
section
namespace Go.AM
section
variable {P:Program} {ty:Nat→Option TI} {n:Nat} {o:Oper} {e:Env} {h:Heap} {K:AK}
theorem CX (hty:bz P ty) {t:Nat} (hh:xY ty t=true):∃el,P.underlying t=some (.pointer el):=by
 unfold xY at hh;split at hh
 ·rename_i i hi
  split at hh
  ·rename_i el hde;exact⟨el,by rw[←hde];exact(hty t i hi).und⟩
  ·cases hh
 ·cases hh
theorem fC (d:Nat) {t el:TypeId} (h:P.underlying t=some (.pointer el)) (a:Option Addr) (w:World):(Op.equalIn (d+1) t (.pointer a) (.pointer none)).run P w=.ok a.isNone w:=by
 cases a<;>simp[Op.equalIn,run_underlying h]
theorem qZ (d:Nat) {t el:TypeId} (h:P.underlying t=some (.pointer el)) (a:Option Addr) (w:World):(Op.equalIn (d+1) t (.pointer none) (.pointer a)).run P w=.ok a.isNone w:=by
 cases a<;>simp[Op.equalIn,run_underlying h]
theorem Ev (hty:bz P ty) (hd:∀d,o.dst=some d→d<n) {op:BinOp} {t t':TypeId} {x y:Operand} (ho:o.op=.binOp op t x y t') (hk:Ny ty o h op t (ev e x) (ev e y) K):∃f,K f∧cF P n o e h f:=by
 have m1:x∈o.op.operands:=by simp[ho,Op.operands]
 have m2:y∈o.op.operands:=by simp[ho,Op.operands]
 have fin:∀{a:Act} {w:World} {b:Bool} {v u:Value},a.eval x=v→a.eval y=u→((∃q,v=.pointer q)∨∃q m c,v=.slice q m c)→(Op.equal t v u).run P w=.ok b w→
  (op=.eql→(execOp a.eval o).run P w=.ok (.value (.bool b)) w)∧(op=.neq→(execOp a.eval o).run P w=.ok (.value (.bool (!b))) w):=by
  intro a w b v u hv hu hg he;rcases hg with⟨q,rfl⟩|⟨q,m,c,rfl⟩<;>refine⟨fun q=>?_,fun q=>?_⟩<;>subst q<;>simp[execOp,ho,hv,hu,cy,binOp,he]
 have plain:∀{b:Bool},(∀{e':Env} {h':Heap} {g:Gh} {w:World} {a:Act},(∀t∈slotsOf o,aL e' t=aL e t)→cp g w n a e' h'→∃v u,a.eval x=v∧a.eval y=u∧((∃q,v=.pointer q)∨∃q m c,v=.slice q m c)∧(Op.equal t v u).run P w=.ok b w)→
  ((op=.eql∧ret o (.p (.b b)) K)∨(op=.neq∧ret o (.p (.b (!b))) K))→∃f,K f∧cF P n o e h f:=by
  intro b hh hc;clear hk;rcases hc with⟨rfl,hk2⟩|⟨rfl,hk2⟩
  ·refine aI hd hk2 fun e' h' he g w a s=>?_
   obtain⟨v,u,h1,h2,h3,h4⟩:=hh he s;exact⟨_,(fin h1 h2 h3 h4).1 rfl,fun d _=>.p _ _ _ (.b _)⟩
  ·refine aI hd hk2 fun e' h' he g w a s=>?_
   obtain⟨v,u,h1,h2,h3,h4⟩:=hh he s;exact⟨_,(fin h1 h2 h3 h4).2 rfl,fun d _=>.p _ _ _ (.b _)⟩
 unfold Ny at hk;split at hk
 ·rename_i s1 k1 m1' hx hy
  have key:ez ty t=true→∀{e':Env} {h':Heap} {g:Gh} {w:World} {a:Act},(∀t∈slotsOf o,aL e' t=aL e t)→cp g w n a e' h'→∃v u,a.eval x=v∧a.eval y=u∧((∃q,v=.pointer q)∨∃q m c,v=.slice q m c)∧(Op.equal t v u).run P w=.ok false w:=by
   intro ht e' h' g w a he s;obtain⟨_,r1⟩:=s.cN he m1 hx;obtain⟨_,r2⟩:=s.cN he m2 hy;have hp:=r1.pv;generalize a.eval x=v at hp;generalize a.eval y=u at r2
   cases hp with
   |jR _ _ A _ cap q hc=>cases r2;exact⟨_,_,rfl,rfl,.inr ⟨_,_,_,rfl⟩,nR hty ht⟩
  split at hk
  ·rename_i ht;exact plain (b:=false) (key ht) (.inl ⟨rfl,hk⟩)
  ·rename_i ht;exact plain (b:=false) (key ht) (.inr ⟨rfl,hk⟩)
  ·exact hk.elim
 ·rename_i hx hy
  have key:ez ty t=true→∀{e':Env} {h':Heap} {g:Gh} {w:World} {a:Act},(∀t∈slotsOf o,aL e' t=aL e t)→cp g w n a e' h'→∃v u,a.eval x=v∧a.eval y=u∧((∃q,v=.pointer q)∨∃q m c,v=.slice q m c)∧(Op.equal t v u).run P w=.ok true w:=by
   intro ht e' h' g w a he s;obtain⟨_,r1⟩:=s.cN he m1 hx;obtain⟨_,r2⟩:=s.cN he m2 hy;have hp:=r1.pv;generalize a.eval x=v at hp;generalize a.eval y=u at r2
   cases hp with
   |sj=>cases r2;exact⟨_,_,rfl,rfl,.inr ⟨_,_,_,rfl⟩,nR hty ht⟩
  split at hk
  ·rename_i ht;exact plain (b:=true) (key ht) (.inl ⟨rfl,hk⟩)
  ·rename_i ht;exact plain (b:=true) (key ht) (.inr ⟨rfl,hk⟩)
  ·exact hk.elim
 ·rename_i s1 k1 s2 k2 hx hy
  split at hk
  ·rename_i i ht hi
   split at hk
   ·rename_i T hde
    have hu:=(hty t i hi).und;rw[hde]at hu;split at hk
    ·rename_i j hj
     obtain⟨inf,z,i1,i2,i3,i4,i5,i6⟩:=(hty T j hj).inf;split at hk
     ·rename_i hz0
      have hz0:inf.size≠0:=fun q=>by rw[←i2,q]at hz0;cases hz0
      have hk0:=dI hk;clear hk;obtain⟨l,sp,nx,sz,M,hg,⟨e1,e2,hsn,q1,q2⟩,hk2⟩:=hk0;subst e1;subst e2
      have key:∀{e':Env} {h':Heap} {g:Gh} {w:World} {a:Act},(∀t∈slotsOf o,aL e' t=aL e t)→aG h' l=aG h l→cp g w n a e' h'→∃v u,a.eval x=v∧a.eval y=u∧((∃q,v=.pointer q)∨∃q m c,v=.slice q m c)∧(Op.equal t v u).run P w=.ok (Nat.beq k1 k2) w:=by
       intro e' h' g w a he hl s;have hst:=s.blk (hl.trans hg);obtain⟨_,r1⟩:=s.cN he m1 hx;obtain⟨_,r2⟩:=s.cN he m2 hy;have p1:=r1.pv;have p2:=r2.pv;obtain⟨xs,hxs⟩:=Option.isSome_iff_exists.1 q1;obtain⟨ys,hys⟩:=Option.isSome_iff_exists.1 q2;obtain⟨A,hA,_,_,va,Ea,hba,_⟩:=hst.D4 hsn k1 xs (cW hxs);obtain⟨B,hB,_,_,vb,Eb,hbb,_⟩:=hst.D4 hsn k2 ys (cW hys);generalize a.eval x=v at p1;generalize a.eval y=u at p2
       cases p1 with
       |bH _ _ a1 C1 r1=>
       cases p2 with
       |bH _ _ a2 C2 r2=>
        replace r1:g.σ _ k1=some (a1,C1):=r1;replace r2:g.σ _ k2=some (a2,C2):=r2;rw[hA]at r1;cases r1;rw[hB]at r2;cases r2;refine⟨_,_,rfl,rfl,.inl ⟨_,rfl⟩,?_⟩
        by_cases ek:k1=k2
        ·subst ek
         rw[hA]at hB;cases hB;rw[Nat.beq_refl];exact qX 9999 hu i1 _ w
        ·rw[beq_false ek]
         have hne:a1≠a2:=fun q=>ek (hst.inj k1 k2 xs ys _ _ (cW hxs) (cW hys) hA hB q);exact pN 9999 hu i1 hz0 w (fun q=>hne (by cases q;rfl)) hba hbb
      split at hk2
      ·refine dy hd hk2 fun e' h' he hl g w a s=>?_
       obtain⟨v,u,h1,h2,h3,h4⟩:=key he hl s;exact⟨_,(fin h1 h2 h3 h4).1 rfl,fun d _=>.p _ _ _ (.b _)⟩
      ·refine dy hd hk2 fun e' h' he hl g w a s=>?_
       obtain⟨v,u,h1,h2,h3,h4⟩:=key he hl s;exact⟨_,(fin h1 h2 h3 h4).2 rfl,fun d _=>.p _ _ _ (.b _)⟩
      ·exact hk2.elim
     ·exact hk.elim
    ·exact hk.elim
   ·exact hk.elim
  ·exact hk.elim
 ·have key:∀{b:Bool},xY ty t=true→ptrEq (ev e x) (ev e y)=some b→∀{e':Env} {h':Heap} {g:Gh} {w:World} {a:Act},(∀t∈slotsOf o,aL e' t=aL e t)→cp g w n a e' h'→∃v u,a.eval x=v∧a.eval y=u∧((∃q,v=.pointer q)∨∃q m c,v=.slice q m c)∧(Op.equal t v u).run P w=.ok b w:=by
   intro b ht hb e' h' g w a he s;obtain⟨el,hu⟩:=CX hty ht;obtain⟨_,r1⟩:=s.cN he m1 rfl;obtain⟨_,r2⟩:=s.cN he m2 rfl;generalize a.eval x=v at r1;generalize a.eval y=u at r2;generalize ev e x=X at r1 hb;generalize ev e y=Y at r2 hb;have two:∀{a:Option Addr},(∃q,Value.pointer a=.pointer q)∨∃q m c,Value.pointer a=.slice q m c:=.inl ⟨_,rfl⟩;unfold ptrEq at hb;split at hb
   ·cases hb
    have p1:=r1.pv
    cases p1;cases r2
    exact⟨_,_,rfl,rfl,two,fC 9999 hu _ w⟩
   ·cases hb
    have p1:=r1.pv;have p2:=r2.pv
    cases p1;cases p2
    exact⟨_,_,rfl,rfl,two,fC 9999 hu _ w⟩
   ·cases hb
    have p1:=r1.pv;have p2:=r2.pv
    cases p1;cases p2
    exact⟨_,_,rfl,rfl,two,qZ 9999 hu _ w⟩
   ·cases hb
    have p1:=r1.pv;have p2:=r2.pv
    cases p1;cases p2
    exact⟨_,_,rfl,rfl,two,qZ 9999 hu _ w⟩
   ·cases hb
    have p1:=r1.pv
    cases p1;cases r2
    exact⟨_,_,rfl,rfl,two,fC 9999 hu _ w⟩
   ·cases hb
    have p1:=r1.pv;have p2:=r2.pv
    cases p1;cases p2
    exact⟨_,_,rfl,rfl,two,fC 9999 hu _ w⟩
   ·cases hb
    have p1:=r1.pv
    cases p1;cases r2
    exact⟨_,_,rfl,rfl,two,fC 9999 hu _ w⟩
   ·cases hb
    have p1:=r1.pv;have p2:=r2.pv
    cases p1;cases p2
    exact⟨_,_,rfl,rfl,two,fC 9999 hu _ w⟩
   ·cases hb
  split at hk
  ·rename_i b ht hb;exact plain (key ht hb) (.inl ⟨rfl,hk⟩)
  ·rename_i b ht hb;exact plain (key ht hb) (.inr ⟨rfl,hk⟩)
  ·exact hk.elim
theorem Ib (hty:bz P ty) (hd:∀d,o.dst=some d→d<n) {t:TypeId} {x:Operand} (ho:o.op=.makeInterface t x) (hk:PC ty o t (ev e x) K):∃f,K f∧cF P n o e h f:=by
 unfold PC at hk;have m1:x∈o.op.operands:=by simp[ho,Op.operands]
 split at hk
 ·rename_i i y hi hx
  have hu:=(hty t i hi).und
  have fin:(∀ms,i.desc≠.interface ms)→ret o (.p (.uq t y)) K→∃f,K f∧cF P n o e h f:=by
   intro hn hq;refine aI hd hq fun e' h' he g w a s=>?_;obtain⟨_,r1⟩:=s.cN he m1 hx;refine⟨.iface t (a.eval x),?_,fun d _=>.p _ _ _ (.uq t _ y r1.pv)⟩
   have hr:(Instr.makeInterface t (a.eval x)).run P w=.ok (.iface t (a.eval x)) w:=by
    simp only[Instr.makeInterface,Sem.run_bind,run_underlying hu,Result.andThen_ok]
    cases hdd:i.desc<;>first|rfl|exact absurd hdd (hn _)
   simp[execOp,ho,hr]
  split at hk
  ·exact hk.elim
  ·rename_i hn;exact fin (fun ms q=>hn ms q) hk
 ·exact hk.elim
theorem NO (d:Nat) {t:TypeId} {ms:Array (String×TypeId)} (hu:P.underlying t=some (.interface ms)) (T:TypeId) (y:Value) (w:World):(Op.equalIn (d+1) t (.iface T y) .nilIface).run P w=.ok false w:=by
 simp only[Op.equalIn,Sem.run_bind,run_underlying hu,Result.andThen_ok,Sem.run_pure]
theorem MY (d:Nat) {t:TypeId} {ms:Array (String×TypeId)} (hu:P.underlying t=some (.interface ms)) (w:World):(Op.equalIn (d+1) t .nilIface .nilIface).run P w=.ok true w:=by
 simp only[Op.equalIn,Sem.run_bind,run_underlying hu,Result.andThen_ok,Sem.run_pure]
theorem En (hty:bz P ty) (hd:∀d,o.dst=some d→d<n) {op:BinOp} {t t':TypeId} {x:Operand} (ho:o.op=.binOp op t x (.const .nilIface) t') (hk:NV ty o op t (ev e x) K):∃f,K f∧cF P n o e h f:=by
 unfold NV at hk;have m1:x∈o.op.operands:=by simp[ho,Op.operands]
 have key:∀{b:Bool},gi ty t=true→CY (ev e x)=some b→∀{e':Env} {h':Heap} {g:Gh} {w:World} {a:Act},(∀t∈slotsOf o,aL e' t=aL e t)→cp g w n a e' h'→
  (eqGuard op t x (.const .nilIface) (a.eval x) .nilIface).run P w=.ok () w∧(Op.equal t (a.eval x) .nilIface).run P w=.ok b w:=by
  intro b ht hb e' h' g w a he s
  have hu:∃ms,P.underlying t=some (.interface ms):=by
   unfold gi at ht;split at ht
   ·rename_i i hi
    split at ht
    ·rename_i ms hdd;exact⟨ms,by rw[←hdd];exact(hty t i hi).und⟩
    ·cases ht
   ·cases ht
  obtain⟨ms,hu⟩:=hu;obtain⟨_,r1⟩:=s.cN he m1 rfl;generalize a.eval x=v at r1
  have hv:(b=false∧∃T y,v=.iface T y)∨(b=true∧v=.nilIface):=by
   generalize ev e x=X at r1 hb;unfold CY at hb;split at hb
   ·cases hb
    have p1:=r1.pv;cases p1;exact .inl ⟨rfl,_,_,rfl⟩
   ·cases hb
    have p1:=r1.pv;cases p1;exact .inr ⟨rfl,rfl⟩
   ·cases hb
    cases r1;exact .inr ⟨rfl,rfl⟩
   ·cases hb
  rcases hv with⟨rfl,T,y,rfl⟩|⟨rfl,rfl⟩
  ·refine⟨by unfold eqGuard;cases op<;>simp,?_⟩
   exact NO 9999 hu T y w
  ·refine⟨by unfold eqGuard;cases op<;>simp,?_⟩
   exact MY 9999 hu w
 have fin:∀{b q:Bool},gi ty t=true→CY (ev e x)=some b→ret o (.p (.b q)) K→((op=.eql∧q=b)∨(op=.neq∧q=!b))→∃f,K f∧cF P n o e h f:=by
  intro b q ht hb hq hop;refine aI hd hq fun e' h' he g w a s=>?_;obtain⟨h1,h2⟩:=key ht hb he s;have hc:a.eval (.const .nilIface)=.nilIface:=rfl;refine⟨.bool q,?_,fun d _=>.p _ _ _ (.b _)⟩;rcases hop with⟨rfl,rfl⟩|⟨rfl,rfl⟩
  ·simp[execOp,ho,hc,h1,binOp,h2]
  ·simp[execOp,ho,hc,h1,binOp,h2]
 split at hk
 ·rename_i b ht hb;exact fin ht hb hk (.inl ⟨rfl,rfl⟩)
 ·rename_i b ht hb;exact fin ht hb hk (.inr ⟨rfl,rfl⟩)
 ·exact hk.elim
theorem Fy (hty:bz P ty) (hd:∀d,o.dst=some d→d<n) (hst:∀t x y,o.op=.store t x y→o.dst=none) (hst2:∀t m k v,o.op=.mapUpdate t m k v∨o.op=.insert t m k v→o.dst=none) (hk:No ty o e h K):∃f,K f∧cF P n o e h f:=by
 unfold No at hk;split at hk
 ·rename_i t x ho;exact Db hty hd ho hk
 ·rename_i t x y ho;exact Bw hty ho (hst _ _ _ ho) hk
 ·rename_i t ho;exact A4 hty hd ho hk
 ·rename_i x ho;exact FP hd ho hk
 ·rename_i s x f ho;exact Ba hty hd ho hk
 ·rename_i t x ix ho;exact A5 hty hd ho hk
 ·rename_i t x u ho;exact Bt hty hd ho hk
 ·rename_i x t ts ho;exact E7 hty hd ho hk
 ·rename_i x y t t2 ho;exact zR hty hd ho hk
 ·rename_i t len parts ho;exact BO hty hd ho hk
 ·rename_i t x ho;exact Ib hty hd ho hk
 ·rename_i t ho;exact yE hty hd ho hk
 ·rename_i t m k ok ho;exact zY hty hd ho hk
 ·rename_i t m k v ho;exact ni hty (.inl ho) (hst2 _ _ _ _ (.inl ho)) hk
 ·rename_i t m k v ho;exact ni hty (.inr ho) (hst2 _ _ _ _ (.inr ho)) hk
 ·rename_i t x ho;exact EY hty hd ho hk
 ·rename_i op t x t' ho;exact En hty hd ho hk
 ·rename_i op t x y t' _ ho;exact Ev hty hd ho hk
 ·exact hk.elim
end
end Go.AM
end
section
namespace Go.AM
section
variable {P:Program} {ty:Nat→Option TI} {n:Nat} {o:Oper} {e:Env} {h:Heap} {K:AK}
end
end Go.AM
end
