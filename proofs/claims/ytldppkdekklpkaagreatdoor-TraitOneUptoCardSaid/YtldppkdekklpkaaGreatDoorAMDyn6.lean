/- Part of a machine over plain values. No conditions. -/
import Derived.Test.YtldppkdekklpkaaGreatDoorAMEqP
import Derived.Test.YtldppkdekklpkaaGreatDoorAMCall
import Derived.LaidEql
set_option linter.all false
section
namespace Go.AM
open MapKept
section
variable {P:Program} {ty:Nat→Option TI} {n:Nat} {o:Oper} {e:Env} {h:Heap} {K:AK}
theorem KD.eq_iff:∀{a b:KD},KD.eq a b=true→a=b
 |.kb,.kb,_=>rfl
 |.ki k,.ki k',h=>by simp[KD.eq]at h;rw[h]
 |.ks,.ks,_=>rfl
 |.kb,.ki _,h=>by cases h
 |.kb,.ks,h=>by cases h
 |.ki _,.kb,h=>by cases h
 |.ki _,.ks,h=>by cases h
 |.ks,.kb,h=>by cases h
 |.ks,.ki _,h=>by cases h
theorem mkk_one {kd kd':KD} {a b:PV×PV} (h:mkk kd a=mkk kd' b):kd=kd'∧a=b:=by
 obtain⟨a1,a2⟩:=a;obtain⟨b1,b2⟩:=b
 cases kd<;>cases kd'<;>simp[mkk,mkp]at h<;>simp[h]
theorem mkk_x {kd:KD} {c:Option KD}:∀{a b:List (PV×PV)},a.map (mkk kd)=b.map (mkx c)→(∀x∈b,keyX c x.1)→a=b∧∀x∈b,kdOf x.1=some kd
 | [],[],_,_=>⟨rfl,by simp⟩
 | [],_::_,h,_=>by simp at h
 |_::_,[],h,_=>by simp at h
 |x::r,y::r',h,hk=>by
  simp only[List.map_cons,List.cons.injEq]at h;obtain⟨h1,h2⟩:=h
  cases c with
  |none=>exfalso;obtain⟨a1,a2⟩:=x;cases kd<;>simp[mkx,mkk,mkp,mkq]at h1
  |some kd'=>
   obtain⟨rfl,rfl⟩:=mkk_one h1;obtain⟨rfl,q⟩:=mkk_x h2 (fun x hx=>hk x (by simp[hx]));refine⟨rfl,fun z hz=>?_⟩;exact hk z hz
theorem mkq_inj:∀{a b:List (PV×PV)},a.map mkq=b.map mkq→a=b
 | [],[],_=>rfl
 | [],_::_,h=>by simp at h
 |_::_,[],h=>by simp at h
 |(x,y)::r,(x',y')::r',h=>by
  simp only[List.map_cons,List.cons.injEq,mkq,PV.agg.injEq,and_true]at h;obtain⟨⟨h1,h2⟩,h3⟩:=h;subst h1;subst h2;rw[mkq_inj h3]
theorem mkq_x {pk:Option KD} {a b:List (PV×PV)} (h:a.map mkq=b.map (mkx pk)):a=b:=by
 cases pk with
 |none=>exact mkq_inj h
 |some kd=>
  cases b with
  |nil=>cases a with
   |nil=>rfl
   |cons x r=>simp at h
  |cons y r=>cases a with
   |nil=>simp at h
   |cons x r=>exfalso;obtain⟨a1,a2⟩:=x;cases kd<;>simp[mkx,mkk,mkp,mkq]at h
theorem Dyn.pushM {g:Gh} {w:World} {l sp k C:Nat} (hf:g.σ sp k=none) (hbnd:∀b o,g.own b=some o→b<w.heap.size):Dyn g w (g.newS w.heap.size C l sp k) (World.push w (.map #[] 0)) l sp:=by
 have hp:∀b,b<w.heap.size→(g.newS w.heap.size C l sp k).pre b=g.pre b∧(g.newS w.heap.size C l sp k).own b=g.own b:=fun b hb=>by simp[Gh.newS,Nat.ne_of_lt hb]
 refine⟨rfl,rfl,fun s q a hq=>?_,fun s hs q=>by simp[Gh.newS,hs],fun b o v h=>imm_push (fun b hb=>(hp b hb).1) h,fun b o h1 _=>?_,fun b hb hn=>⟨push_old hb,(hp b hb).1,(hp b hb).2.trans hn⟩,fun b cs2 E2 hb=>⟨cs2,E2,by rw[push_old (get_lt hb)];exact hb,rfl⟩,fun b o ho=>?_,by rw[push_size];omega,rfl,rfl,fun a _=>frozen_push_map a⟩
 ·have:¬(s=sp∧q=k):=fun⟨e1,e2⟩=>by subst e1;subst e2;rw[hf]at hq;cases hq
  simp only[Gh.newS,if_neg this];exact hq
 ·have hb:=hbnd b o h1
  exact⟨(hp b hb).2.trans h1,(hp b hb).1,push_old hb⟩
 ·rw[push_size]
  by_cases hb:b=w.heap.size
  ·omega
  ·have:(g.newS w.heap.size C l sp k).own b=g.own b:=by simp[Gh.newS,hb]
   rw[this]at ho;have:=hbnd b o ho;omega
theorem Dyn.setMap {g:Gh} {w:World} {l sp A:Nat} {es es':Array MapEntry} {c c':Nat} (hown:g.own A=some (.obj l)) (hb:w.heap[A]?=some (.map es' c')) (hbnd:∀b o,g.own b=some o→b<w.heap.size):Dyn g w g (World.setMap w A es c) l sp:=
 ⟨rfl,rfl,fun _ _ _ q=>q,fun _ _ _=>rfl,fun _ _ _ hv=>imm_setMap hb hv,fun b o h1 h2=>⟨h1,rfl,setMap_other (fun e=>by subst e;rw[hown]at h1;cases h1;exact h2 rfl)⟩,fun b _ hn=>⟨setMap_other (fun e=>by subst e;rw[hown]at hn;cases hn),rfl,hn⟩,
   fun b cs E' hb'=>⟨cs,E',by rw[setMap_other (fun e=>by subst e;rw[hb]at hb';cases hb')];exact hb',rfl⟩,fun b o ho=>by rw[setMap_size];exact hbnd b o ho,by rw[setMap_size];exact Nat.le_refl _,rfl,rfl,fun a _=>frozen_setMap hb a⟩
theorem dMakeMap_sound (hty:TyOK P ty) (hd:∀d,o.dst=some d→d<n) {t:Nat} (ho:o.op=.makeMap t none) (hk:dMakeMap ty o h t K):∃f,K f∧OpOK P n o e h f:=by
 unfold dMakeMap at hk;split at hk
 ·rename_i i d hi hdd
  split at hk
  ·rename_i kt et hde
   split at hk
   ·rename_i j hj
    split at hk
    ·obtain⟨l,sp,nx,sz,M,hg,hk⟩:=AStO_spec hk
     split at hk
     ·rename_i hsz
      obtain rfl:sz=0:=Nat.eq_of_beq_eq_true hsz;refine⟨_,hk,fun e' h' he hl g w a s=>?_⟩;have hl0:hget h' l=some (.store t true sp nx 0 M):=(hl l (by simp)).trans hg;have hst:=s.blk hl0
      have hr:(execOp a.eval o).run P w=.ok (.value (.map (some w.heap.size))) (World.push w (.map #[] 0)):=by
       simp only[execOp,ho,Option.map_none,Instr.makeMap,Sem.run_bind,Sem.run_pure,newObj_push,Result.andThen_ok]
      have d1:=Dyn.pushM (g:=g) (w:=w) (l:=l) (sp:=sp) (k:=nx) (C:=0) (hst.fresh nx (Nat.le_refl _)) s.bnd
      have hblk:SBlk (g.newS w.heap.size 0 l sp nx) (World.push w (.map #[] 0)) (w.heap.size,0) 0 []:=
       .inr ⟨rfl,none,#[],0,[],push_new,rfl,⟨rfl,by simp⟩,by simp,rfl,by simp⟩
      have hst2:=hst.add (a:=(w.heap.size,0)) (xs:=[]) d1 (fun p hp=>hp) hst.nodup (by simp[Gh.newS]) (fun k hk=>by simp[Gh.newS,hk]) (fun k ys b q1 q2=>by
       obtain⟨b',p1,p2,_⟩:=hst.row k ys q1;rw[q2]at p1;cases p1;have hlt:=s.bnd _ _ p2;have hne:b.1≠w.heap.size:=by omega
       exact⟨hne,by simp[Gh.newS,hne],by simp[Gh.newS,hne],push_old hlt⟩) (by simp[Gh.newS]) (by simp[Gh.newS]) hblk
      obtain⟨s2,hE⟩:=s.dyn hl0 d1 hst2;refine Oper.wp_value hr ⟨_,?_,hE⟩;rw[hdd];exact s2.put (hd d hdd) (.p _ _ _ (.amp sp nx w.heap.size 0 (by simp[imm,Gh.newS])))
     ·exact hk.elim
    ·exact hk.elim
   ·exact hk.elim
  ·exact hk.elim
 ·exact hk.elim
theorem find_relP (hty:TyOK P ty) {g:Gh} {w:World} {kt T2 l2 sp2 nx2 sz2 k2:Nat} {j2:TI} {M2:List (Nat×List PV)} (hjd:P.underlying kt=some (.pointer T2)) (hj2:ty T2=some j2) (hz2:Nat.beq j2.size 0=false) (hst:StoreOK g w l2 sp2 nx2 sz2 M2) (hsn:sz2≠0) (hk2:(slk k2 M2).isSome=true) {k:Value} (rk:PRel (imm g w) k (.adr sp2 k2)):
 ∀(es:List MapEntry) (xs:List (PV×PV)) (i:Nat),entriesRel (imm g w) es xs→keysIn sp2 M2 xs→
 (mfind (.adr sp2 k2) xs=none∧(Instr.findAsking kt k es i).run P w=.ok none w)∨∃(j:Nat) (en:MapEntry) (x:PV×PV),(Instr.findAsking kt k es i).run P w=.ok (some (i+j,en.val)) w∧es[j]?=some en∧xs[j]?=some x∧mfind (.adr sp2 k2) xs=some x.2
 | [],xs,i,hr,_=>by
   have:xs=[]:=List.eq_nil_of_length_eq_zero (by simpa using hr.1.symm);subst this;exact .inl ⟨rfl,rfl⟩
 |en::es,[],i,hr,_=>by have:=hr.1;simp at this
 |en::es,x::xs,i,hr,hx=>by
  obtain⟨inf,z,i1,i2,i3,i4,i5,i6⟩:=(hty T2 j2 hj2).inf;have hz0:inf.size≠0:=fun q=>by rw[←i2,q]at hz2;cases hz2
  obtain⟨p1,p2⟩:=hr.2 0 en x rfl rfl;obtain⟨k1,hx1,hq1⟩:=hx x (by simp);rw[hx1]at p1;have htail:entriesRel (imm g w) es xs:=⟨by have:=hr.1;simpa using this,fun j e' x' h1 h2=>hr.2 (j+1) e' x' (by simpa using h1) (by simpa using h2)⟩
  obtain⟨ys1,hys1⟩:=Option.isSome_iff_exists.1 hq1;obtain⟨ys2,hys2⟩:=Option.isSome_iff_exists.1 hk2;obtain⟨A,hA,_,_,va,Ea,hba,_⟩:=hst.rowC hsn k1 ys1 (slk_mem hys1);obtain⟨B,hB,_,_,vb,Eb,hbb,_⟩:=hst.rowC hsn k2 ys2 (slk_mem hys2);have ih:=find_relP hty hjd hj2 hz2 hst hsn hk2 rk es xs (i+1) htail (fun x hx'=>hx x (by simp[hx']));obtain⟨ek,ev,eb⟩:=en;obtain⟨x1,x2⟩:=x;subst hx1
  cases rk with
  |adr _ _ a2 C2 r2=>
  cases p1 with
  |adr _ _ a1 C1 r1=>
   replace r1:g.σ _ k1=some (a1,C1):=r1;replace r2:g.σ _ k2=some (a2,C2):=r2;rw[hA]at r1;cases r1;rw[hB]at r2;cases r2
   by_cases e1:k2=k1
   ·subst e1
    rw[hA]at hB;cases hB;have hq:(Op.equal kt (.pointer (some ⟨a2,0,none⟩)) (.pointer (some ⟨a2,0,none⟩))).run P w=.ok true w:=run_eqIn_same 9999 hjd i1 _ w;refine .inr ⟨0,_,_,?_,rfl,rfl,?_⟩
    ·simp only[Instr.findAsking,Sem.run_bind,hq,Result.andThen_ok,if_true,Sem.run_pure,Nat.add_zero]
    ·simp[mfind,pvEq]
   ·have hne:a2≠a1:=fun q=>e1 (hst.inj k2 k1 ys2 ys1 _ _ (slk_mem hys2) (slk_mem hys1) hB hA q)
    have hq:(Op.equal kt (.pointer (some ⟨a2,0,none⟩)) (.pointer (some ⟨a1,0,none⟩))).run P w=.ok false w:=run_eqIn_other 9999 hjd i1 hz0 w (fun q=>hne (by cases q;rfl)) hbb hba;have hpv:pvEq (.adr sp2 k2) (.adr sp2 k1)=false:=beq_false e1
    have hrun:∀r,(Instr.findAsking kt (.pointer (some ⟨a2,0,none⟩)) es (i+1)).run P w=r→(Instr.findAsking kt (.pointer (some ⟨a2,0,none⟩)) (⟨.pointer (some ⟨a1,0,none⟩),ev,eb⟩::es) i).run P w=r:=fun r hr=>by
     simp only[Instr.findAsking,Sem.run_bind,hq,Result.andThen_ok];exact hr
    rcases ih with⟨q1,q2⟩|⟨j,e',x',q1,q2,q3,q4⟩
    ·exact .inl ⟨by simp[mfind,hpv,q1],hrun _ q2⟩
    ·exact .inr ⟨j+1,e',x',by rw[show i+(j+1)=i+1+j by omega];exact hrun _ q1,by simpa using q2,by simpa using q3,by simp[mfind,hpv,q4]⟩
theorem run_findKeyP {w:World} {kt T2:Nat} {k:Value} {l:List MapEntry} {r:Option (Nat×Value)} (hd:P.underlying kt=some (.pointer T2)) (h:(Instr.findAsking kt k l 0).run P w=.ok r w):(Instr.findKey kt k l).run P w=.ok r w:=by
 cases l with
 |nil=>cases h;simp[Instr.findKey,run_underlying hd,Result.andThen,Instr.findNow]
 |cons e es=>
  have:Instr.findNow (.pointer T2) k (e::es) 0=none:=by simp[Instr.findNow,Instr.sameNow]
  simp only[Instr.findKey,Sem.run_bind,run_underlying hd,Result.andThen_ok,this];exact h
theorem run_checkKeyP {w:World} {kt T2:Nat} {k:Value} (hd:P.underlying kt=some (.pointer T2)) (b:Bool) (n:Nat):(Instr.checkKey b (n+1) kt k).run P w=.ok () w:=by
 unfold Instr.checkKey;simp only[Sem.run_bind,run_underlying hd,Result.andThen];rfl
theorem retM_sound (hd:∀d,o.dst=some d→d<n) {rd:List Nat} {x:AV} (hk:retM o rd [] x K)
 (hrun:∀e' h',(∀t∈slotsOf o,eget e' t=eget e t)→(∀l∈rd,hget h' l=hget h l)→∀g w a,Sim g w n a e' h'→∃v,(execOp a.eval o).run P w=.ok (.value v) w∧∀d:Nat,VRel g w (domOf h') (some (.slot d)) v x):∃f,K f∧OpOK P n o e h f:=by
 refine⟨_,retM_iff hk,fun e' h' he hl g w a s=>?_⟩
 have hl':∀l∈rd,hget h' l=hget h l:=fun l hlR=>by
  cases hdst:o.dst<;>simp only[hdst]at hl<;>exact hl l (by simp[hlR])
 obtain⟨v,hr,hv⟩:=hrun e' h' he hl' g w a s;refine Oper.wp_value hr ⟨g,?_,Ext.refl _ _⟩
 cases hdst:o.dst with
 |none=>exact s
 |some d=>exact s.put (hd d hdst) (hv d)
theorem dLookP_sound (hty:TyOK P ty) (hd:∀d,o.dst=some d→d<n) {t T2 s0 q s2 k2 kt et:Nat} {m k:Operand} {ok:Bool} {z:PV} {je:TI} (ho:o.op=.lookup t m k ok) (hu:P.underlying t=some (.map kt et)) (hjd:P.underlying kt=some (.pointer T2)) (hje:ty et=some je) (hz:zeroPV je=some z) (hm:ev e m=.p (.amp s0 q)) (hkp:ev e k=.p (.adr s2 k2)) (hk:dLookP ty o h t T2 s0 q s2 k2 ok z K):∃f,K f∧OpOK P n o e h f:=by
 have m1:m∈o.op.operands:=by simp[ho,Op.operands]
 have m2:k∈o.op.operands:=by simp[ho,Op.operands]
 have lres:∀{g:Gh} {w:World} {dom:Nat→Prop} {ow:Option Owner} {v:Value} {x:PV} (b:Bool),PRel (imm g w) v x→VRel g w dom ow (if ok then .tuple #[v,.bool b] else v) (lookRes ok x b):=by
  intro g w dom ow v x b hr
  cases ok with
  |false=>exact .p _ _ _ hr
  |true=>
   refine .tup _ [v,.bool b] [.p x,.p (.b b)] rfl (fun j v' c hv hc=>?_)
   match j with
   |0=>simp at hv hc;subst hv;subst hc;exact .p _ _ _ hr
   |1=>simp at hv hc;subst hv;subst hc;exact .p _ _ _ (.b b)
   |j+2=>simp at hv
 unfold dLookP at hk;split at hk
 ·rename_i j2 hj2
  split at hk
  ·rename_i hz2
   obtain⟨l,sp,nx,sz,M,hg,hk⟩:=AStO_spec hk;obtain⟨l2,sp2,nx2,sz2,M2,hg2,⟨rfl,hsz,rfl,hsn,hq2⟩,xs,hxs,hin,x,b,hlook,hk⟩:=AStO_spec hk;refine retM_sound hd hk fun e' h' he hl' g w a s=>?_;have hst:=s.blk ((hl' l (by simp)).trans hg);have hst2:=s.blk ((hl' l2 (by simp)).trans hg2);obtain⟨_,r1⟩:=s.evo he m1 hm;obtain⟨_,r2⟩:=s.evo he m2 hkp;have r2:=r2.pv;have r1:=r1.pv;generalize hv:a.eval m=v at r1
   cases r1 with
   |amp _ _ A C hA=>
    obtain⟨A',hA',hown,hpre,pk,es,clock,ps,hb,hps,hxx,hc0,hmk⟩:=hst.rowM hsz q _ (slk_mem hxs);have hA:g.σ s0 q=some (A,C):=hA;rw[hA]at hA';cases hA';obtain rfl:=mkq_x hps;have ck:=run_checkKeyP (P:=P) (w:=w) (k:=a.eval k) hjd es.isEmpty 9999;obtain⟨zv,hz1,hz2',_⟩:=zeroPV_spec hty hje hz (imm g w) w;have hb:w.heap[A]?=some (.map es clock):=hb;rcases find_relP hty hjd hj2 hz2 hst2 hsn hq2 r2 es.toList xs 0 hxx hin with⟨q1,q2⟩|⟨j,en,y,q1,q2,q3,q4⟩
    ·have hf:=run_findKeyP hjd q2
     rw[mlook,q1]at hlook;cases hlook;refine⟨_,?_,fun d=>lres false (v:=zv) hz2'⟩;simp only[execOp,ho,Instr.lookup,Sem.run_bind,run_underlying hu,Result.andThen_ok,hv,run_getObj_map hb,Sem.run_pure,ck,hf,hz1]
    ·have hf:=run_findKeyP hjd q1
     have hp:=(hxx.2 j en y q2 q3).2;rw[mlook,q4]at hlook;cases hlook;refine⟨_,?_,fun d=>lres true (v:=en.val) hp⟩;simp only[execOp,ho,Instr.lookup,Sem.run_bind,run_underlying hu,Result.andThen_ok,hv,run_getObj_map hb,Sem.run_pure,ck,hf]
  ·exact hk.elim
 ·exact hk.elim
theorem dUpdP_sound (hty:TyOK P ty) {t T2 s0 q s2 k2 kt et:Nat} {m k v:Operand} {vp:PV} {z:List Nat} (ho:o.op=.mapUpdate t m k v∨o.op=.insert t m k v) (hdn:o.dst=none) (hu:P.underlying t=some (.map kt et)) (hjd:P.underlying kt=some (.pointer T2)) (hm:ev e m=.p (.amp s0 q)) (hkp:ev e k=.p (.adr s2 k2)) (hvp:(ev e v).pureL z=some vp) (hk:dUpdP ty h t T2 s0 q s2 k2 vp K):∃f,K f∧OpOK P n o e h f:=by
 have m1:m∈o.op.operands:=by rcases ho with ho|ho<;>simp[ho,Op.operands]
 have m2:k∈o.op.operands:=by rcases ho with ho|ho<;>simp[ho,Op.operands]
 have m3:v∈o.op.operands:=by rcases ho with ho|ho<;>simp[ho,Op.operands]
 have hex:∀(a:Act) (w:World),(execOp a.eval o:Sem Next).run P w=((do Instr.mapUpdate t (a.eval m) (a.eval k) (a.eval v);pure .skip):Sem Next).run P w:=by
  intro a w;rcases ho with ho|ho<;>simp only[execOp,ho]
 unfold dUpdP at hk;split at hk
 ·rename_i j2 hj2
  split at hk
  ·rename_i hz2
   obtain⟨l,sp,nx,sz,M,hg,hk⟩:=AStO_spec hk;obtain⟨l2,sp2,nx2,sz2,M2,hg2,⟨rfl,hsz,rfl,hsn,hq2⟩,xs,hxs,⟨hin,hnone⟩,hk⟩:=AStO_spec hk;refine⟨_,hk,fun e' h' he hl g w a s=>?_⟩;have hl0:hget h' l=some (.store t true s0 nx sz M):=(hl l (by simp)).trans hg;have hst:=s.blk hl0;have hst2:=s.blk ((hl l2 (by simp)).trans hg2);obtain⟨_,r1⟩:=s.evo he m1 hm;obtain⟨_,r2⟩:=s.evo he m2 hkp;obtain⟨_,r3⟩:=s.evo he m3 rfl;have r2:=r2.pv;have r3:=pureL_rel r3 hvp;have r1:=r1.pv;generalize hv:a.eval m=mv at r1
   cases r1 with
   |amp _ _ A C hA=>
    obtain⟨A',hA',hown,hpre,pk,es,clock,ps,hb,hps,hxx,hc0,hmk⟩:=hst.rowM hsz q _ (slk_mem hxs);have hA:g.σ s0 q=some (A,C):=hA;rw[hA]at hA';cases hA';obtain rfl:=mkq_x hps;have hb:w.heap[A]?=some (.map es clock):=hb;have hown:g.own A=some (.obj l):=hown;have ck:=run_checkKeyP (P:=P) (w:=w) (k:=a.eval k) hjd false 9999;rcases find_relP hty hjd hj2 hz2 hst2 hsn hq2 r2 es.toList xs 0 hxx hin with⟨q1,q2⟩|⟨j,en,y,q1,q2,q3,q4⟩
    ·have hf:=run_findKeyP hjd q2
     have hr:(execOp a.eval o).run P w=.ok .skip (World.setMap w A (es.push { key:=a.eval k,val:=a.eval v,born:=clock }) (clock+1)):=by
      rw[hex];simp only[Instr.mapUpdate,Sem.run_bind,run_underlying hu,Result.andThen_ok,hv,run_getObj_map hb,ck,hf,run_setObj_map _ hb,Sem.run_pure];rfl
     have hxl:=hxx.1;simp only[Array.length_toList]at hxl;have d1:Dyn g w g (World.setMap w A (es.push { key:=a.eval k,val:=a.eval v,born:=clock }) (clock+1)) l s0:=Dyn.setMap hown hb s.bnd
     have hkx:∀x∈xs++[(PV.adr s2 k2,vp)],keyX none x.1:=fun x hx=>by
      rcases List.mem_append.1 hx with hx|hx
      ·obtain⟨k',e1,_⟩:=hin x hx;exact⟨_,_,e1⟩
      ·simp at hx;subst hx;exact⟨_,_,rfl⟩
     have hst3:=hst.set (a:=(A,C)) (ys:=(xs++[(PV.adr s2 k2,vp)]).map mkq) d1 hxs hA (fun b hb2=>setMap_other hb2) (.inr ⟨hsz,none,_,clock+1,_,setMap_self hb,rfl,⟨by simp[hxl],fun j p1 p2 p3 p4=>by
      have key:PRel (imm g w) p1.key p2.1∧PRel (imm g w) p1.val p2.2:=by
       simp only[Array.toList_push]at p3
       by_cases hj:j<es.size
       ·rw[List.getElem?_append_left (by simpa using hj)]at p3
        rw[List.getElem?_append_left (by omega)]at p4;exact hxx.2 j p1 p2 p3 p4
       ·rw[List.getElem?_append_right (by simpa using hj)]at p3
        rw[List.getElem?_append_right (by omega)]at p4
        have:j=es.size:=by
         have:=(List.getElem?_eq_some_iff.1 p3).1;simp at this;omega
        subst this;simp at p3;rw[hxl]at p4;simp at p4;subst p3;subst p4;exact⟨r2,r3⟩
      exact⟨key.1.mono fun _ _ _ hv=>imm_setMap hb hv,key.2.mono fun _ _ _ hv=>imm_setMap hb hv⟩⟩,hkx,hmk.push⟩)
     obtain⟨s3,hE⟩:=s.dyn hl0 d1 hst3;refine Oper.wp_skip hr ⟨g,?_,hE⟩;rw[hdn];exact s3
    ·rw[q4]at hnone;cases hnone
  ·exact hk.elim
 ·exact hk.elim
theorem dLookup_sound (hty:TyOK P ty) (hd:∀d,o.dst=some d→d<n) {t:Nat} {m k:Operand} {ok:Bool} (ho:o.op=.lookup t m k ok) (hk:dLookup ty o h t (ev e m) (ev e k) ok K):∃f,K f∧OpOK P n o e h f:=by
 have m1:m∈o.op.operands:=by simp[ho,Op.operands]
 have m2:k∈o.op.operands:=by simp[ho,Op.operands]
 have lres:∀{g:Gh} {w:World} {dom:Nat→Prop} {ow:Option Owner} {v:Value} {x:PV} (b:Bool),PRel (imm g w) v x→VRel g w dom ow (if ok then .tuple #[v,.bool b] else v) (lookRes ok x b):=by
  intro g w dom ow v x b hr
  cases ok with
  |false=>exact .p _ _ _ hr
  |true=>
   refine .tup _ [v,.bool b] [.p x,.p (.b b)] rfl (fun j v' c hv hc=>?_)
   match j with
   |0=>simp at hv hc;subst hv;subst hc;exact .p _ _ _ hr
   |1=>simp at hv hc;subst hv;subst hc;exact .p _ _ _ (.b b)
   |j+2=>simp at hv
 unfold dLookup at hk;split at hk
 ·rename_i i hi
  split at hk
  ·rename_i kt et hde
   have hu:=(hty t i hi).und;rw[hde]at hu;split at hk
   ·rename_i jk je hjk hje
    have hjd:=(hty kt jk hjk).und;split at hk
    ·rename_i z s0 q s2 k2 hz hm hkp
     split at hk
     ·rename_i T2 hT2
      rw[hT2]at hjd;exact dLookP_sound hty hd ho hu hjd hje hz hm hkp hk
     ·exact hk.elim
    ·rename_i z s0 q kp _ hz hm hkp
     split at hk
     ·rename_i kd kd' hka hkb
      split at hk
      ·rename_i hke
       obtain rfl:=KD.eq_iff hke;obtain⟨l,sp,nx,sz,M,hg,⟨rfl,hsz⟩,xs,hxs,x,b,hlook,hk⟩:=AStO_spec hk;refine retR_sound hd hk fun e' h' he hl' g w a s=>?_;have hst:=s.blk (hl'.trans hg);obtain⟨_,r1⟩:=s.evo he m1 hm;obtain⟨_,r2⟩:=s.evo he m2 hkp;have r2:=r2.pv;have r1:=r1.pv;generalize hv:a.eval m=v at r1
       cases r1 with
       |amp _ _ A C hA=>
        obtain⟨A',hA',hown,hpre,pk,es,clock,ps,hb,hps,hxx,hc0,hmk⟩:=hst.rowM hsz q _ (slk_mem hxs);have hA:g.σ s0 q=some (A,C):=hA;rw[hA]at hA';cases hA';obtain⟨rfl,hc1⟩:=mkk_x hps hc0;have hc:=And.intro hc1 hmk;have huk:=(hty kt jk hjk).und;have ck:=run_checkKey (P:=P) (w:=w) huk (isKey_of hka r2 hkb) es.isEmpty 9999;obtain⟨zv,hz1,hz2,_⟩:=zeroPV_spec hty hje hz (imm g w) w;have hb:w.heap[A]?=some (.map es clock):=hb;rcases find_rel hka r2 hkb z es.toList xs 0 hxx hc.1 with⟨q1,q2,_⟩|⟨j,en,y,q1,q2,q3,q4,q5,_⟩
        ·have hf:=run_findKey (P:=P) (w:=w) huk q2
         rw[mlook,q1]at hlook;cases hlook;refine⟨_,?_,fun d _=>lres false (v:=zv) hz2⟩;simp only[execOp,ho,Instr.lookup,Sem.run_bind,run_underlying hu,Result.andThen_ok,hv,run_getObj_map hb,Sem.run_pure,ck,hf,hz1]
        ·have hf:=run_findKey (P:=P) (w:=w) huk q1
         have hp:=(hxx.2 j en y q2 q3).2;rw[mlook,q4]at hlook;cases hlook;refine⟨_,?_,fun d _=>lres true (v:=en.val) hp⟩;simp only[execOp,ho,Instr.lookup,Sem.run_bind,run_underlying hu,Result.andThen_ok,hv,run_getObj_map hb,Sem.run_pure,ck,hf]
      ·exact hk.elim
     ·exact hk.elim
    ·exact hk.elim
   ·exact hk.elim
  ·exact hk.elim
 ·exact hk.elim
theorem dMapUpdate_sound (hty:TyOK P ty) {t:Nat} {m k v:Operand} (ho:o.op=.mapUpdate t m k v∨o.op=.insert t m k v) (hdn:o.dst=none) (hk:dMapUpdate ty h t (ev e m) (ev e k) (ev e v) K):∃f,K f∧OpOK P n o e h f:=by
 have m1:m∈o.op.operands:=by rcases ho with ho|ho<;>simp[ho,Op.operands]
 have m2:k∈o.op.operands:=by rcases ho with ho|ho<;>simp[ho,Op.operands]
 have m3:v∈o.op.operands:=by rcases ho with ho|ho<;>simp[ho,Op.operands]
 have hex:∀(a:Act) (w:World),(execOp a.eval o:Sem Next).run P w=((do Instr.mapUpdate t (a.eval m) (a.eval k) (a.eval v);pure .skip):Sem Next).run P w:=by
  intro a w;rcases ho with ho|ho<;>simp only[execOp,ho]
 unfold dMapUpdate at hk;split at hk
 ·rename_i i hi
  split at hk
  ·rename_i kt et hde
   have hu:=(hty t i hi).und;rw[hde]at hu;split at hk
   ·rename_i jk je hjk hje
    split at hk
    ·rename_i s0 q s2 k2 vp hm hkp hvp
     split at hk
     ·rename_i T2 hT2
      have hjd:=(hty kt jk hjk).und;rw[hT2]at hjd;exact dUpdP_sound hty ho hdn hu hjd hm hkp hvp hk
     ·exact hk.elim
    ·rename_i s0 q kp vp _ hm hkp hvp
     split at hk
     ·rename_i kd kd' hka hkb
      split at hk
      ·rename_i hke
       obtain rfl:=KD.eq_iff hke;obtain⟨l,sp,nx,sz,M,hg,⟨rfl,hsz⟩,xs,hxs,hk⟩:=AStO_spec hk;refine⟨_,hk,fun e' h' he hl g w a s=>?_⟩;have hl0:hget h' l=some (.store t true s0 nx sz M):=(hl l (by simp)).trans hg;have hst:=s.blk hl0;obtain⟨_,r1⟩:=s.evo he m1 hm;obtain⟨_,r2⟩:=s.evo he m2 hkp;obtain⟨_,r3⟩:=s.evo he m3 rfl;have r2:=r2.pv;have r3:=pureL_rel r3 hvp;have r1:=r1.pv;generalize hv:a.eval m=mv at r1
       cases r1 with
       |amp _ _ A C hA=>
        obtain⟨A',hA',hown,hpre,pk,es,clock,ps,hb,hps,hxx,hc0,hmk⟩:=hst.rowM hsz q _ (slk_mem hxs);have hA:g.σ s0 q=some (A,C):=hA;rw[hA]at hA';cases hA';obtain⟨rfl,hc1⟩:=mkk_x hps hc0;have hc:=And.intro hc1 hmk;have hb:w.heap[A]?=some (.map es clock):=hb;have hown:g.own A=some (.obj l):=hown;have huk:=(hty kt jk hjk).und;have ik:=isKey_of hka r2 hkb;have ck:=run_checkKey (P:=P) (w:=w) huk ik false 9999
        have fin:∀(es2:Array MapEntry) (c2:Nat) (ys:List (PV×PV)),(execOp a.eval o).run P w=.ok .skip (World.setMap w A es2 c2)→entriesRel (imm g w) es2.toList ys→(∀x∈ys,kdOf x.1=some kd)→MapOK es2 c2→ys=mput kp vp xs→
         o.wp P a w (fun a' w'=>∃g',Sim g' w' n a' ([]++e') ([(l,AObj.store t true s0 nx sz (sset q ((mput kp vp xs).map (mkk kd)) M))]++h')∧Ext g w g' w') (fun _ _ _=>False):=by
         intro es2 c2 ys hr hx2 hk2 hm2 hys;subst hys;have d1:Dyn g w g (World.setMap w A es2 c2) l s0:=Dyn.setMap hown hb s.bnd;have hst2:=hst.set (a:=(A,C)) (ys:=(mput kp vp xs).map (mkk kd)) d1 hxs hA (fun b hb2=>setMap_other hb2) (.inr ⟨hsz,some kd,es2,c2,_,setMap_self hb,rfl,⟨hx2.1,fun j p1 p2 p3 p4=>⟨(hx2.2 j p1 p2 p3 p4).1.mono fun _ _ _ hv=>imm_setMap hb hv,(hx2.2 j p1 p2 p3 p4).2.mono fun _ _ _ hv=>imm_setMap hb hv⟩⟩,hk2,hm2⟩);obtain⟨s2,hE⟩:=s.dyn hl0 d1 hst2;refine Oper.wp_skip hr ⟨g,?_,hE⟩;rw[hdn];exact s2
        rcases find_rel hka r2 hkb vp es.toList xs 0 hxx hc.1 with⟨q1,q2,q3⟩|⟨j,en,y,q1,q2,q3,q4,q5,q6⟩
        ·have hf:=run_findKey (P:=P) (w:=w) huk q2
         have hr:(execOp a.eval o).run P w=.ok .skip (World.setMap w A (es.push { key:=a.eval k,val:=a.eval v,born:=clock }) (clock+1)):=by
          rw[hex];simp only[Instr.mapUpdate,Sem.run_bind,run_underlying hu,Result.andThen_ok,hv,run_getObj_map hb,ck,hf,run_setObj_map _ hb,Sem.run_pure];rfl
         refine fin _ _ _ hr ⟨?_,fun j p1 p2 p3 p4=>?_⟩ (fun x hx=>?_) hc.2.push q3.symm
         ·have:=hxx.1;simp at this;simp[this]
         ·have hxl:=hxx.1
          simp only[Array.length_toList]at hxl;simp only[Array.toList_push]at p3
          by_cases hj:j<es.size
          ·rw[List.getElem?_append_left (by simpa using hj)]at p3
           rw[List.getElem?_append_left (by omega)]at p4;exact hxx.2 j p1 p2 p3 p4
          ·rw[List.getElem?_append_right (by simpa using hj)]at p3
           rw[List.getElem?_append_right (by omega)]at p4
           have:j=es.size:=by
            have:=(List.getElem?_eq_some_iff.1 p3).1;simp at this;omega
           subst this;simp at p3;rw[hxl]at p4;simp at p4;subst p3;subst p4;exact⟨r2,r3⟩
         ·rcases List.mem_append.1 hx with hx|hx
          ·exact hc.1 x hx
          ·simp at hx;subst hx;exact hkb
        ·have hf:=run_findKey (P:=P) (w:=w) huk q1
         have hr:(execOp a.eval o).run P w=.ok .skip (World.setMap w A (es.modify (0+j) fun e=>{ e with key:=a.eval k,val:=a.eval v }) clock):=by
          rw[hex]
          have hkey:((es[0+j]?).map (·.key)).getD (a.eval k)=a.eval k:=by
           have:es[0+j]?=some en:=by simpa using q2
           rw[this];simpa using q5
          simp only[Instr.mapUpdate,Sem.run_bind,run_underlying hu,Result.andThen_ok,hv,run_getObj_map hb,ck,hf,hkey,run_keyThatStays ik,run_setObj_map _ hb,Sem.run_pure];rfl
         refine fin _ _ _ hr ⟨?_,fun j' p1 p2 p3 p4=>?_⟩ (fun x hx=>?_) hc.2.modify q6.symm
         ·have:=hxx.1;simp at this;simp[this]
         ·rw[Array.getElem?_toList,Array.getElem?_modify]at p3
          rw[List.getElem?_set]at p4
          by_cases hjj:j=j'
          ·subst hjj
           have hjl:j<xs.length:=(List.getElem?_eq_some_iff.1 q3).1;rw[if_pos rfl,if_pos hjl]at p4;have:es[j]?=some en:=by simpa using q2
           simp[this]at p3;simp at p4;subst p3;subst p4;exact⟨r2,r3⟩
          ·rw[if_neg (by simpa using hjj)]at p3
           rw[if_neg hjj]at p4;exact hxx.2 j' p1 p2 (by simpa using p3) p4
         ·rcases List.mem_or_eq_of_mem_set hx with hx|rfl
          ·exact hc.1 x hx
          ·exact hkb
      ·exact hk.elim
     ·exact hk.elim
    ·exact hk.elim
   ·exact hk.elim
  ·exact hk.elim
 ·exact hk.elim
theorem dBox_sound (hty:TyOK P ty) (hd:∀d,o.dst=some d→d<n) {t:Nat} {x:Operand} (ho:o.op=.box t x) (hk:dBox ty o h t (ev e x) K):∃f,K f∧OpOK P n o e h f:=by
 have m1:x∈o.op.operands:=by simp[ho,Op.operands]
 unfold dBox at hk;split at hk
 ·rename_i i d hi hdd
  split at hk
  ·rename_i zs hzs
   obtain⟨l,sp,nx,sz,M,hg,hk⟩:=AStO_spec hk;split at hk
   ·rename_i hsz hsz0
    obtain rfl:zs.length=sz:=Nat.eq_of_beq_eq_true hsz;have hpos:0<zs.length:=Nat.pos_of_ne_zero fun q=>by rw[q]at hsz0;cases hsz0
    refine⟨_,hk,fun e' h' he hl g w a s=>?_⟩;have hl0:hget h' l=some (.store t true sp nx zs.length M):=(hl l (by simp)).trans hg;have hst:=s.blk hl0;obtain⟨_,r⟩:=s.evo he m1 rfl;have hpr:PRel (imm g w) (a.eval x) (.agg zs):=pureL_rel r hzs;obtain⟨c1,c2,c3⟩:=prel_cells hpr;have c1:(a.eval x).cells.toList.length=zs.length:=c1
    have hr:(execOp a.eval o).run P w=.ok (.value (.pointer (some ⟨w.heap.size,0,none⟩))) (World.push w (.cells (a.eval x).cells t (0,0))):=by
     simp[execOp,ho,Instr.box,newVar,newRow];rfl
    have d1:=Dyn.push (g:=g) (w:=w) (l:=l) (sp:=sp) (k:=nx) (C:=1) (cs:=(a.eval x).cells) (E:=t) (hst.fresh nx (Nat.le_refl _)) s.bnd
    have hblk:SBlk (g.newS w.heap.size 1 l sp nx) (World.push w (.cells (a.eval x).cells t (0,0))) (w.heap.size,1) zs.length [.agg zs]:=by
     refine .inl ⟨(a.eval x).cells,t,push_new,hpos,⟨by simp,by rw[Nat.one_mul,←c1];simp⟩,fun x hx=>by simp at hx;subst hx;rfl,fun j x hj q y hy=>?_⟩;have ej:j=0:=by have:=(List.getElem?_eq_some_iff.1 hj).1;simp at this;exact this
     subst ej;simp at hj;subst hj;have hy:zs[q]?=some y:=hy;have hq:q<zs.length:=(List.getElem?_eq_some_iff.1 hy).1;have hzc:(a.eval x).cells.toList[q]?=some ((a.eval x).cells.toList[q]'(by omega)):=List.getElem?_eq_getElem _;generalize (a.eval x).cells.toList[q]'(by omega)=u at hzc;exact⟨u,by simpa using hzc,c2 u (List.mem_of_getElem? hzc),(c3 q u y hzc hy).mono d1.imm d1.σ⟩
    have hst2:=hst.add (a:=(w.heap.size,1)) (xs:=[.agg zs]) d1 (fun p hp=>hp) hst.nodup (by simp[Gh.newS]) (fun k hk=>by simp[Gh.newS,hk]) (fun k ys b q1 q2=>by
     obtain⟨b',p1,p2,_⟩:=hst.row k ys q1;rw[q2]at p1;cases p1;have hlt:=s.bnd _ _ p2;have hne:b.1≠w.heap.size:=by omega
     exact⟨hne,by simp[Gh.newS,hne],by simp[Gh.newS,hne],push_old hlt⟩) (by simp[Gh.newS]) (by simp[Gh.newS]) hblk
    obtain⟨s2,hE⟩:=s.dyn hl0 d1 hst2;refine Oper.wp_value hr ⟨_,?_,hE⟩;rw[hdd];exact s2.put (hd d hdd) (.p _ _ _ (.adr sp nx w.heap.size 1 (by simp[imm,Gh.newS])))
   ·exact hk.elim
  ·exact hk.elim
 ·exact hk.elim
end
end Go.AM
end
section
namespace Go.AM
section
variable {P:Program} {ty:Nat→Option TI} {n:Nat} {o:Oper} {e:Env} {h:Heap} {K:AK}
theorem isPtrT_spec (hty:TyOK P ty) {t:Nat} (hh:isPtrT ty t=true):∃el,P.underlying t=some (.pointer el):=by
 unfold isPtrT at hh;split at hh
 ·rename_i i hi
  split at hh
  ·rename_i el hde;exact⟨el,by rw[←hde];exact(hty t i hi).und⟩
  ·cases hh
 ·cases hh
theorem run_eqIn_nilp (d:Nat) {t el:TypeId} (h:P.underlying t=some (.pointer el)) (a:Option Addr) (w:World):(Op.equalIn (d+1) t (.pointer a) (.pointer none)).run P w=.ok a.isNone w:=by
 cases a<;>simp[Op.equalIn,run_underlying h]
theorem run_eqIn_pnil (d:Nat) {t el:TypeId} (h:P.underlying t=some (.pointer el)) (a:Option Addr) (w:World):(Op.equalIn (d+1) t (.pointer none) (.pointer a)).run P w=.ok a.isNone w:=by
 cases a<;>simp[Op.equalIn,run_underlying h]
theorem dBin_sound (hty:TyOK P ty) (hd:∀d,o.dst=some d→d<n) {op:BinOp} {t t':TypeId} {x y:Operand} (ho:o.op=.binOp op t x y t') (hk:dBin ty o h op t (ev e x) (ev e y) K):∃f,K f∧OpOK P n o e h f:=by
 have m1:x∈o.op.operands:=by simp[ho,Op.operands]
 have m2:y∈o.op.operands:=by simp[ho,Op.operands]
 have fin:∀{a:Act} {w:World} {b:Bool} {v u:Value},a.eval x=v→a.eval y=u→((∃q,v=.pointer q)∨∃q m c,v=.slice q m c)→(Op.equal t v u).run P w=.ok b w→
  (op=.eql→(execOp a.eval o).run P w=.ok (.value (.bool b)) w)∧(op=.neq→(execOp a.eval o).run P w=.ok (.value (.bool (!b))) w):=by
  intro a w b v u hv hu hg he;rcases hg with⟨q,rfl⟩|⟨q,m,c,rfl⟩<;>refine⟨fun q=>?_,fun q=>?_⟩<;>subst q<;>simp[execOp,ho,hv,hu,eqGuard_plain,binOp,he]
 have plain:∀{b:Bool},(∀{e':Env} {h':Heap} {g:Gh} {w:World} {a:Act},(∀t∈slotsOf o,eget e' t=eget e t)→Sim g w n a e' h'→∃v u,a.eval x=v∧a.eval y=u∧((∃q,v=.pointer q)∨∃q m c,v=.slice q m c)∧(Op.equal t v u).run P w=.ok b w)→
  ((op=.eql∧ret o (.p (.b b)) K)∨(op=.neq∧ret o (.p (.b (!b))) K))→∃f,K f∧OpOK P n o e h f:=by
  intro b hh hc;clear hk;rcases hc with⟨rfl,hk2⟩|⟨rfl,hk2⟩
  ·refine ret_sound hd hk2 fun e' h' he g w a s=>?_
   obtain⟨v,u,h1,h2,h3,h4⟩:=hh he s;exact⟨_,(fin h1 h2 h3 h4).1 rfl,fun d _=>.p _ _ _ (.b _)⟩
  ·refine ret_sound hd hk2 fun e' h' he g w a s=>?_
   obtain⟨v,u,h1,h2,h3,h4⟩:=hh he s;exact⟨_,(fin h1 h2 h3 h4).2 rfl,fun d _=>.p _ _ _ (.b _)⟩
 unfold dBin at hk;split at hk
 ·rename_i s1 k1 m1' hx hy
  have key:isSliceT ty t=true→∀{e':Env} {h':Heap} {g:Gh} {w:World} {a:Act},(∀t∈slotsOf o,eget e' t=eget e t)→Sim g w n a e' h'→∃v u,a.eval x=v∧a.eval y=u∧((∃q,v=.pointer q)∨∃q m c,v=.slice q m c)∧(Op.equal t v u).run P w=.ok false w:=by
   intro ht e' h' g w a he s;obtain⟨_,r1⟩:=s.evo he m1 hx;obtain⟨_,r2⟩:=s.evo he m2 hy;have hp:=r1.pv;generalize a.eval x=v at hp;generalize a.eval y=u at r2
   cases hp with
   |ads _ _ A _ cap q hc=>cases r2;exact⟨_,_,rfl,rfl,.inr ⟨_,_,_,rfl⟩,run_eq_nil hty ht⟩
  split at hk
  ·rename_i ht;exact plain (b:=false) (key ht) (.inl ⟨rfl,hk⟩)
  ·rename_i ht;exact plain (b:=false) (key ht) (.inr ⟨rfl,hk⟩)
  ·exact hk.elim
 ·rename_i hx hy
  have key:isSliceT ty t=true→∀{e':Env} {h':Heap} {g:Gh} {w:World} {a:Act},(∀t∈slotsOf o,eget e' t=eget e t)→Sim g w n a e' h'→∃v u,a.eval x=v∧a.eval y=u∧((∃q,v=.pointer q)∨∃q m c,v=.slice q m c)∧(Op.equal t v u).run P w=.ok true w:=by
   intro ht e' h' g w a he s;obtain⟨_,r1⟩:=s.evo he m1 hx;obtain⟨_,r2⟩:=s.evo he m2 hy;have hp:=r1.pv;generalize a.eval x=v at hp;generalize a.eval y=u at r2
   cases hp with
   |nsl=>cases r2;exact⟨_,_,rfl,rfl,.inr ⟨_,_,_,rfl⟩,run_eq_nil hty ht⟩
  split at hk
  ·rename_i ht;exact plain (b:=true) (key ht) (.inl ⟨rfl,hk⟩)
  ·rename_i ht;exact plain (b:=true) (key ht) (.inr ⟨rfl,hk⟩)
  ·exact hk.elim
 ·rename_i s1 k1 s2 k2 hx hy
  split at hk
  ·rename_i i ht hi
   split at hk
   ·rename_i T hde
    have hu:=(hty t i hi).und;rw[hde]at hu;split at hk
    ·rename_i j hj
     obtain⟨inf,z,i1,i2,i3,i4,i5,i6⟩:=(hty T j hj).inf;split at hk
     ·rename_i hz0
      have hz0:inf.size≠0:=fun q=>by rw[←i2,q]at hz0;cases hz0
      have hk0:=AStO_spec hk;clear hk;obtain⟨l,sp,nx,sz,M,hg,⟨e1,e2,hsn,q1,q2⟩,hk2⟩:=hk0;subst e1;subst e2
      have key:∀{e':Env} {h':Heap} {g:Gh} {w:World} {a:Act},(∀t∈slotsOf o,eget e' t=eget e t)→hget h' l=hget h l→Sim g w n a e' h'→∃v u,a.eval x=v∧a.eval y=u∧((∃q,v=.pointer q)∨∃q m c,v=.slice q m c)∧(Op.equal t v u).run P w=.ok (Nat.beq k1 k2) w:=by
       intro e' h' g w a he hl s;have hst:=s.blk (hl.trans hg);obtain⟨_,r1⟩:=s.evo he m1 hx;obtain⟨_,r2⟩:=s.evo he m2 hy;have p1:=r1.pv;have p2:=r2.pv;obtain⟨xs,hxs⟩:=Option.isSome_iff_exists.1 q1;obtain⟨ys,hys⟩:=Option.isSome_iff_exists.1 q2;obtain⟨A,hA,_,_,va,Ea,hba,_⟩:=hst.rowC hsn k1 xs (slk_mem hxs);obtain⟨B,hB,_,_,vb,Eb,hbb,_⟩:=hst.rowC hsn k2 ys (slk_mem hys);generalize a.eval x=v at p1;generalize a.eval y=u at p2
       cases p1 with
       |adr _ _ a1 C1 r1=>
       cases p2 with
       |adr _ _ a2 C2 r2=>
        replace r1:g.σ _ k1=some (a1,C1):=r1;replace r2:g.σ _ k2=some (a2,C2):=r2;rw[hA]at r1;cases r1;rw[hB]at r2;cases r2;refine⟨_,_,rfl,rfl,.inl ⟨_,rfl⟩,?_⟩
        by_cases ek:k1=k2
        ·subst ek
         rw[hA]at hB;cases hB;rw[Nat.beq_refl];exact run_eqIn_same 9999 hu i1 _ w
        ·rw[beq_false ek]
         have hne:a1≠a2:=fun q=>ek (hst.inj k1 k2 xs ys _ _ (slk_mem hxs) (slk_mem hys) hA hB q);exact run_eqIn_other 9999 hu i1 hz0 w (fun q=>hne (by cases q;rfl)) hba hbb
      split at hk2
      ·refine retR_sound hd hk2 fun e' h' he hl g w a s=>?_
       obtain⟨v,u,h1,h2,h3,h4⟩:=key he hl s;exact⟨_,(fin h1 h2 h3 h4).1 rfl,fun d _=>.p _ _ _ (.b _)⟩
      ·refine retR_sound hd hk2 fun e' h' he hl g w a s=>?_
       obtain⟨v,u,h1,h2,h3,h4⟩:=key he hl s;exact⟨_,(fin h1 h2 h3 h4).2 rfl,fun d _=>.p _ _ _ (.b _)⟩
      ·exact hk2.elim
     ·exact hk.elim
    ·exact hk.elim
   ·exact hk.elim
  ·exact hk.elim
 ·have key:∀{b:Bool},isPtrT ty t=true→ptrEq (ev e x) (ev e y)=some b→∀{e':Env} {h':Heap} {g:Gh} {w:World} {a:Act},(∀t∈slotsOf o,eget e' t=eget e t)→Sim g w n a e' h'→∃v u,a.eval x=v∧a.eval y=u∧((∃q,v=.pointer q)∨∃q m c,v=.slice q m c)∧(Op.equal t v u).run P w=.ok b w:=by
   intro b ht hb e' h' g w a he s;obtain⟨el,hu⟩:=isPtrT_spec hty ht;obtain⟨_,r1⟩:=s.evo he m1 rfl;obtain⟨_,r2⟩:=s.evo he m2 rfl;generalize a.eval x=v at r1;generalize a.eval y=u at r2;generalize ev e x=X at r1 hb;generalize ev e y=Y at r2 hb;have two:∀{a:Option Addr},(∃q,Value.pointer a=.pointer q)∨∃q m c,Value.pointer a=.slice q m c:=.inl ⟨_,rfl⟩;unfold ptrEq at hb;split at hb
   ·cases hb
    have p1:=r1.pv
    cases p1;cases r2
    exact⟨_,_,rfl,rfl,two,run_eqIn_nilp 9999 hu _ w⟩
   ·cases hb
    have p1:=r1.pv;have p2:=r2.pv
    cases p1;cases p2
    exact⟨_,_,rfl,rfl,two,run_eqIn_nilp 9999 hu _ w⟩
   ·cases hb
    have p1:=r1.pv;have p2:=r2.pv
    cases p1;cases p2
    exact⟨_,_,rfl,rfl,two,run_eqIn_pnil 9999 hu _ w⟩
   ·cases hb
    have p1:=r1.pv;have p2:=r2.pv
    cases p1;cases p2
    exact⟨_,_,rfl,rfl,two,run_eqIn_pnil 9999 hu _ w⟩
   ·cases hb
    have p1:=r1.pv
    cases p1;cases r2
    exact⟨_,_,rfl,rfl,two,run_eqIn_nilp 9999 hu _ w⟩
   ·cases hb
    have p1:=r1.pv;have p2:=r2.pv
    cases p1;cases p2
    exact⟨_,_,rfl,rfl,two,run_eqIn_nilp 9999 hu _ w⟩
   ·cases hb
    have p1:=r1.pv
    cases p1;cases r2
    exact⟨_,_,rfl,rfl,two,run_eqIn_nilp 9999 hu _ w⟩
   ·cases hb
    have p1:=r1.pv;have p2:=r2.pv
    cases p1;cases p2
    exact⟨_,_,rfl,rfl,two,run_eqIn_nilp 9999 hu _ w⟩
   ·cases hb
  split at hk
  ·rename_i b ht hb;exact plain (key ht hb) (.inl ⟨rfl,hk⟩)
  ·rename_i b ht hb;exact plain (key ht hb) (.inr ⟨rfl,hk⟩)
  ·exact hk.elim
theorem dMk_sound (hty:TyOK P ty) (hd:∀d,o.dst=some d→d<n) {t:TypeId} {x:Operand} (ho:o.op=.makeInterface t x) (hk:dMk ty o t (ev e x) K):∃f,K f∧OpOK P n o e h f:=by
 unfold dMk at hk;have m1:x∈o.op.operands:=by simp[ho,Op.operands]
 split at hk
 ·rename_i i y hi hx
  have hu:=(hty t i hi).und
  have fin:(∀ms,i.desc≠.interface ms)→ret o (.p (.ifv t y)) K→∃f,K f∧OpOK P n o e h f:=by
   intro hn hq;refine ret_sound hd hq fun e' h' he g w a s=>?_;obtain⟨_,r1⟩:=s.evo he m1 hx;refine⟨.iface t (a.eval x),?_,fun d _=>.p _ _ _ (.ifv t _ y r1.pv)⟩
   have hr:(Instr.makeInterface t (a.eval x)).run P w=.ok (.iface t (a.eval x)) w:=by
    simp only[Instr.makeInterface,Sem.run_bind,run_underlying hu,Result.andThen_ok]
    cases hdd:i.desc<;>first|rfl|exact absurd hdd (hn _)
   simp[execOp,ho,hr]
  split at hk
  ·exact hk.elim
  ·rename_i hn;exact fin (fun ms q=>hn ms q) hk
 ·exact hk.elim
theorem eqIfcF (d:Nat) {t:TypeId} {ms:Array (String×TypeId)} (hu:P.underlying t=some (.interface ms)) (T:TypeId) (y:Value) (w:World):(Op.equalIn (d+1) t (.iface T y) .nilIface).run P w=.ok false w:=by
 simp only[Op.equalIn,Sem.run_bind,run_underlying hu,Result.andThen_ok,Sem.run_pure]
theorem eqIfcT (d:Nat) {t:TypeId} {ms:Array (String×TypeId)} (hu:P.underlying t=some (.interface ms)) (w:World):(Op.equalIn (d+1) t .nilIface .nilIface).run P w=.ok true w:=by
 simp only[Op.equalIn,Sem.run_bind,run_underlying hu,Result.andThen_ok,Sem.run_pure]
theorem dIfc_sound (hty:TyOK P ty) (hd:∀d,o.dst=some d→d<n) {op:BinOp} {t t':TypeId} {x:Operand} (ho:o.op=.binOp op t x (.const .nilIface) t') (hk:dIfc ty o op t (ev e x) K):∃f,K f∧OpOK P n o e h f:=by
 unfold dIfc at hk;have m1:x∈o.op.operands:=by simp[ho,Op.operands]
 have key:∀{b:Bool},isIfaceT ty t=true→ifNil (ev e x)=some b→∀{e':Env} {h':Heap} {g:Gh} {w:World} {a:Act},(∀t∈slotsOf o,eget e' t=eget e t)→Sim g w n a e' h'→
  (eqGuard op t x (.const .nilIface) (a.eval x) .nilIface).run P w=.ok () w∧(Op.equal t (a.eval x) .nilIface).run P w=.ok b w:=by
  intro b ht hb e' h' g w a he s
  have hu:∃ms,P.underlying t=some (.interface ms):=by
   unfold isIfaceT at ht;split at ht
   ·rename_i i hi
    split at ht
    ·rename_i ms hdd;exact⟨ms,by rw[←hdd];exact(hty t i hi).und⟩
    ·cases ht
   ·cases ht
  obtain⟨ms,hu⟩:=hu;obtain⟨_,r1⟩:=s.evo he m1 rfl;generalize a.eval x=v at r1
  have hv:(b=false∧∃T y,v=.iface T y)∨(b=true∧v=.nilIface):=by
   generalize ev e x=X at r1 hb;unfold ifNil at hb;split at hb
   ·cases hb
    have p1:=r1.pv;cases p1;exact .inl ⟨rfl,_,_,rfl⟩
   ·cases hb
    have p1:=r1.pv;cases p1;exact .inr ⟨rfl,rfl⟩
   ·cases hb
    cases r1;exact .inr ⟨rfl,rfl⟩
   ·cases hb
  rcases hv with⟨rfl,T,y,rfl⟩|⟨rfl,rfl⟩
  ·refine⟨by unfold eqGuard;cases op<;>simp,?_⟩
   exact eqIfcF 9999 hu T y w
  ·refine⟨by unfold eqGuard;cases op<;>simp,?_⟩
   exact eqIfcT 9999 hu w
 have fin:∀{b q:Bool},isIfaceT ty t=true→ifNil (ev e x)=some b→ret o (.p (.b q)) K→((op=.eql∧q=b)∨(op=.neq∧q=!b))→∃f,K f∧OpOK P n o e h f:=by
  intro b q ht hb hq hop;refine ret_sound hd hq fun e' h' he g w a s=>?_;obtain⟨h1,h2⟩:=key ht hb he s;have hc:a.eval (.const .nilIface)=.nilIface:=rfl;refine⟨.bool q,?_,fun d _=>.p _ _ _ (.b _)⟩;rcases hop with⟨rfl,rfl⟩|⟨rfl,rfl⟩
  ·simp[execOp,ho,hc,h1,binOp,h2]
  ·simp[execOp,ho,hc,h1,binOp,h2]
 split at hk
 ·rename_i b ht hb;exact fin ht hb hk (.inl ⟨rfl,rfl⟩)
 ·rename_i b ht hb;exact fin ht hb hk (.inr ⟨rfl,rfl⟩)
 ·exact hk.elim
theorem aopD_sound (hty:TyOK P ty) (hd:∀d,o.dst=some d→d<n) (hst:∀t x y,o.op=.store t x y→o.dst=none) (hst2:∀t m k v,o.op=.mapUpdate t m k v∨o.op=.insert t m k v→o.dst=none) (hk:aopD ty o e h K):∃f,K f∧OpOK P n o e h f:=by
 unfold aopD at hk;split at hk
 ·rename_i t x ho;exact dLoad_sound hty hd ho hk
 ·rename_i t x y ho;exact dStore_sound hty ho (hst _ _ _ ho) hk
 ·rename_i t ho;exact dAlloc_sound hty hd ho hk
 ·rename_i x ho;exact dNil_sound hd ho hk
 ·rename_i s x f ho;exact dField_sound hty hd ho hk
 ·rename_i t x ix ho;exact dIndex_sound hty hd ho hk
 ·rename_i t x u ho;exact dSlice_sound hty hd ho hk
 ·rename_i x t ts ho;exact dLen_sound hty hd ho hk
 ·rename_i x y t t2 ho;exact dAppend_sound hty hd ho hk
 ·rename_i t len parts ho;exact dBuild_sound hty hd ho hk
 ·rename_i t x ho;exact dMk_sound hty hd ho hk
 ·rename_i t ho;exact dMakeMap_sound hty hd ho hk
 ·rename_i t m k ok ho;exact dLookup_sound hty hd ho hk
 ·rename_i t m k v ho;exact dMapUpdate_sound hty (.inl ho) (hst2 _ _ _ _ (.inl ho)) hk
 ·rename_i t m k v ho;exact dMapUpdate_sound hty (.inr ho) (hst2 _ _ _ _ (.inr ho)) hk
 ·rename_i t x ho;exact dBox_sound hty hd ho hk
 ·rename_i op t x t' ho;exact dIfc_sound hty hd ho hk
 ·rename_i op t x y t' _ ho;exact dBin_sound hty hd ho hk
 ·exact hk.elim
end
end Go.AM
end
