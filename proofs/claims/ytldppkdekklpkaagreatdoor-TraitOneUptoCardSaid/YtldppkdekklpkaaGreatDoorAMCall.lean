/- Part of a machine over plain values. No conditions. -/
import Derived.Test.YtldppkdekklpkaaGreatDoorAMSndA
import Derived.Laws.MakeOwn
set_option linter.all false
section
namespace Go.AM
open MapKept
section
variable {P:Program} {ty:Nat→Option TI} {n:Nat} {o:Oper} {e:Env} {h:Heap} {K:AK}
theorem MapOK.push {es:Array MapEntry} {c:Nat} (h:MapOK es c) {k v:Value}:MapOK (es.push { key:=k,val:=v,born:=c }) (c+1):=by
 refine⟨by simp[h.1],fun j e he=>?_⟩;rw[Array.getElem?_push]at he;split at he
 ·rename_i hj;cases he;rw[hj];exact h.1
 ·exact h.2 j e he
theorem MapOK.modify {es:Array MapEntry} {c i:Nat} (h:MapOK es c) {k v:Value}:MapOK (es.modify i fun e=>{ e with key:=k,val:=v }) c:=by
 refine⟨by simp[h.1],fun j e he=>?_⟩;rw[Array.getElem?_modify]at he;split at he
 ·cases hq:es[j]? with
  |none=>simp[hq]at he
  |some e0=>simp[hq]at he;subst he;exact h.2 j e0 hq
 ·exact h.2 j e he
theorem KD.eq_spec {a b:KD} (h:KD.eq a b=true):a=b:=by
 cases a<;>cases b<;>simp_all [KD.eq]
theorem isKey_of {M:Mm} {d:TypeDesc} {kd:KD} (h1:kdD d=some kd) {v:Value} {x:PV} (r:PRel M v x) (h2:kdOf x=some kd):IsKey d v:=by
 cases d<;>simp[kdD]at h1<;>subst h1<;>cases r<;>simp_all [kdOf,IsKey]
theorem pvEq_iff {M:Mm} {kd:KD} {v u:Value} {x y:PV} (r1:PRel M v x) (r2:PRel M u y) (h1:kdOf x=some kd) (h2:kdOf y=some kd):pvEq x y=true↔v=u:=by
 cases r1<;>simp[kdOf]at h1<;>subst h1<;>cases r2<;>simp_all [kdOf,pvEq,bytes_beq]
theorem find_rel {M:Mm} {d:TypeDesc} {kd:KD} (hd:kdD d=some kd) {k:Value} {kp:PV} (rk:PRel M k kp) (hk:kdOf kp=some kd) (nv:PV):∀(es:List MapEntry) (xs:List (PV×PV)) (i:Nat),entriesRel M es xs→(∀x∈xs,kdOf x.1=some kd)→
 (mfind kp xs=none∧Instr.findNow d k es i=some none∧mput kp nv xs=xs++[(kp,nv)])∨∃(j:Nat) (en:MapEntry) (x:PV×PV),Instr.findNow d k es i=some (some (i+j,en.val))∧es[j]?=some en∧xs[j]?=some x∧mfind kp xs=some x.2∧en.key=k∧mput kp nv xs=xs.set j (kp,nv)
 | [],xs,i,hr,_=>by
   have:xs=[]:=List.eq_nil_of_length_eq_zero (by simpa using hr.1.symm);subst this;exact .inl ⟨rfl,rfl,rfl⟩
 |en::es,[],i,hr,_=>by have:=hr.1;simp at this
 |en::es,x::xs,i,hr,hx=>by
  obtain⟨p1,p2⟩:=hr.2 0 en x rfl rfl;have hkx:=hx x (by simp);have ik:=isKey_of hd rk hk;have ie:=isKey_of hd p1 hkx;obtain⟨r,hr1,hr2⟩:=sameNow_of_keys ik ie;have hpv:=pvEq_iff rk p1 hk hkx;obtain⟨xk,xv⟩:=x;have htail:entriesRel M es xs:=⟨by have:=hr.1;simpa using this,fun j e' x' h1 h2=>hr.2 (j+1) e' x' (by simpa using h1) (by simpa using h2)⟩
  cases r with
  |true=>
   have hkk:=hr2.1 rfl;refine .inr ⟨0,en,(xk,xv),by simp[Instr.findNow,hr1],rfl,rfl,?_,hkk.symm,?_⟩
   ·simp[mfind,hpv.2 hkk]
   ·simp[mput,hpv.2 hkk]
  |false=>
   have hne:pvEq kp xk=false:=by
    cases hq:pvEq kp xk with
    |false=>rfl
    |true=>have:=hr2.2 (hpv.1 hq);cases this
   rcases find_rel hd rk hk nv es xs (i+1) htail (fun x hx'=>hx x (by simp[hx'])) with⟨q1,q2,q3⟩|⟨j,e',x',q1,q2,q3,q4,q5,q6⟩
   ·exact .inl ⟨by simp[mfind,hne,q1],by simp[Instr.findNow,hr1,q2],by simp[mput,hne,q3]⟩
   ·exact .inr ⟨j+1,e',x',by simp[Instr.findNow,hr1,q1];omega,by simpa using q2,by simpa using q3,by simp[mfind,hne,q4],q5,by simp[mput,hne,q6]⟩
theorem zeroPV_spec (hty:TyOK P ty) {t:Nat} {i:TI} (hi:ty t=some i) {z:PV} (hz:zeroPV i=some z) (M:Mm) (w:World):∃v,(zeroValue t).run P w=.ok v w∧PRel M v z∧(isAggD i.desc=false→i.zero=[v]∨i.size≠1):=by
 obtain⟨inf,zv,h1,h2,h3,h4,h5,h6⟩:=(hty t i hi).inf;have one:=(hty t i hi).one
 let g:Gh:=⟨fun _=>0,fun _=>none,fun _=>0,fun _ _=>none,fun _=>none⟩
 have lift:∀{v:Value} {x:PV},PRel (imm g w) v x→PRel M v x:=fun r=>r.mono (fun b o' v' hv=>by simp[imm,g]at hv) (fun _ _ _ hv=>by simp[imm,g]at hv);have hrun:(zeroValue t).run P w=.ok zv w:=by simp[zeroValue,typeInfo,h1,h4]
 refine⟨zv,hrun,?_,?_⟩
 ·unfold zeroPV at hz
  split at hz
  ·rename_i hag
   split at hz
   ·rename_i l hl
    cases hz;obtain⟨k1,k2⟩:=allPure_spec (g:=g) (w:=w) (dom:=fun _=>False) _ _ _ hl
    have hagg:∃cs,zv=.agg cs:=by
     have hinf:=(hty t i hi).agz hag;obtain⟨inf',zv',e1,e2,e3⟩:=hinf;rw[h1]at e1;cases e1;rw[h4]at e2;cases e2;exact e3
    obtain⟨cs,rfl⟩:=hagg;simp only[Value.cells]at h5;have:=PRel.agg (M:=M) cs.toList l (by rw[k1,constAVs_length,h5]) (fun v hv=>one v (by rw[←h5];exact hv)) (fun j v x hv hx=>lift (k2 j v none (constAV v) x (by rw[constAVs_get,←h5,hv];rfl) hx (constAV_rel v)));simpa using this
   ·cases hz
  ·rename_i hag
   split at hz
   ·rename_i v r hzz
    have hzv:zv=v:=by
     obtain⟨inf',zv',e1,e2,e3⟩:=(hty t i hi).noz hag;rw[h1]at e1;cases e1;rw[h4]at e2;cases e2;rw[e3]at h5;rw[hzz]at h5;simp at h5;exact h5.1
    rw[hzv];exact lift (pure?_rel (constAV_rel (g:=g) (w:=w) (dom:=fun _=>False) (ow:=none) v) hz)
   ·cases hz
 ·intro hag
  obtain⟨inf',zv',e1,e2,e3⟩:=(hty t i hi).noz hag;rw[h1]at e1;cases e1;rw[h4]at e2;cases e2;rw[e3]at h5;exact .inl (by rw[←h5])
def World.setMap (w:World) (b:Nat) (es:Array MapEntry) (c:Nat):World:={ w with heap:=w.heap.setIfInBounds b (.map es c) }
theorem setMap_other {w:World} {b:Nat} {es:Array MapEntry} {c b':Nat} (h:b'≠b):(World.setMap w b es c).heap[b']?=w.heap[b']?:=by
 simp[World.setMap,Ne.symm h]
theorem setMap_self {w:World} {b:Nat} {es es':Array MapEntry} {c c':Nat} (hb:w.heap[b]?=some (.map es' c')):(World.setMap w b es c).heap[b]?=some (.map es c):=by
 have hlt:b<w.heap.size:=(Array.getElem?_eq_some_iff.1 hb).1;simp[World.setMap,hlt]
theorem setMap_size {w:World} {b:Nat} {es:Array MapEntry} {c:Nat}:(World.setMap w b es c).heap.size=w.heap.size:=by simp[World.setMap]
theorem imm_setMap {g:Gh} {w:World} {b:Nat} {es es':Array MapEntry} {c c':Nat} (hb:w.heap[b]?=some (.map es' c')) {b1 o1:Nat} {v:Value} (hv:imm g w b1 o1=some v):imm g (World.setMap w b es c) b1 o1=some v:=by
 have hne:b1≠b:=by
  intro q;subst q;have:=imm_cell hv;simp[World.cell?,hb]at this
 simp only[imm_eq]at hv ⊢;simp only[World.cell?,setMap_other hne]at hv ⊢;exact hv
theorem frozen_setMap {w:World} {b:Nat} {es es':Array MapEntry} {c c':Nat} (hb:w.heap[b]?=some (.map es' c')) (a:Addr):(World.setMap w b es c).frozen? a=w.frozen? a:=by
 by_cases q:a.block=b
 ·subst q;simp[World.frozen?,setMap_self hb,hb]
 ·simp[World.frozen?,setMap_other q]
theorem VRel.setMap {g:Gh} {w:World} {dom dom':Nat→Prop} {l:Nat} {es es':Array MapEntry} {c c':Nat} (hown:g.own (g.ρ l)=some (.obj l)) (hb:w.heap[g.ρ l]?=some (.map es' c')) (hd:∀k,dom k→dom' k)
 {ow:Option Owner} (hne:ow≠some (.obj l)) {v:Value} {x:AV} (r:VRel g w dom ow v x):VRel g (World.setMap w (g.ρ l) es c) dom' ow v x:=by
 refine VRel.keep (g:=g) (g':=g) (w:=w) (w':=World.setMap w (g.ρ l) es c) (fun b i u hu=>imm_setMap hb hu) (fun k hk=>⟨hd k hk,rfl⟩) (fun k cs F hk hc=>?_) (fun o1 b e1 h1=>?_) r
 ·have:g.ρ k≠g.ρ l:=fun q=>by rw[q,hb]at hc;cases hc
  exact⟨cs,F,by rw[setMap_other this];exact hc,rfl⟩
 ·have hbl:b≠g.ρ l:=fun eq=>by subst eq;rw[hown]at h1;cases h1;exact hne e1
  exact⟨h1,rfl,setMap_other hbl⟩
theorem Ext.setMap {g:Gh} {w:World} {l:Nat} {es es':Array MapEntry} {c c':Nat} (hown:g.own (g.ρ l)=some (.obj l)) (hb:w.heap[g.ρ l]?=some (.map es' c')):Ext g w g (World.setMap w (g.ρ l) es c):=by
 refine⟨by rw[setMap_size];exact Nat.le_refl _,rfl,rfl,fun b i u hu=>imm_setMap hb hu,fun b hbb ho=>⟨?_,rfl,ho⟩,SgLe.of rfl rfl,fun a _=>frozen_setMap hb a,fun _ _=>rfl,fun b cs E hb'=>?_⟩
 ·have hbl:b≠g.ρ l:=fun eq=>by subst eq;rw[hown]at ho;cases ho
  exact setMap_other hbl
 ·have hbl:b≠g.ρ l:=fun eq=>by subst eq;rw[hb]at hb';cases hb'
  exact⟨cs,E,by rw[setMap_other hbl];exact hb',rfl⟩
theorem Sim.setMap {g:Gh} {w:World} {a:Act} {e:Env} {h:Heap} (s:Sim g w n a e h) {l:Nat} {y:AObj} {kd:KD} {xs:List (PV×PV)} (hl:hget h l=some y) {es es':Array MapEntry} {c c':Nat} (hb:w.heap[g.ρ l]?=some (.map es' c'))
 (hx:entriesRel (imm g w) es.toList xs) (hk:(∀x∈xs,kdOf x.1=some kd)∧MapOK es c) (hsy:y.solid=true:=by rfl):Sim g (World.setMap w (g.ρ l) es c) n a e ((l,.map kd xs)::h):=by
 have hown:=s.heap.own l y hl hsy;have hpre:=s.heap.pre l y hl hsy;have hdom:∀k,domOf h k→domOf ((l,AObj.map kd xs)::h) k:=fun k hk=>(domOf_set hl k).2 hk;refine⟨s.defers,s.size,fun i=>(s.env i).setMap hown hb hdom (by simp),⟨fun k z hz=>?_,fun k z hz hq=>?_,fun k z hz hq=>?_⟩,fun b o' ho'=>by rw[setMap_size];exact s.bnd b o' ho'⟩
 ·by_cases ek:l=k
  ·subst ek;rw[hget_self]at hz;cases hz
   exact .map kd xs es c (setMap_self hb) ⟨hx.1,fun j p1 p2 p3 p4=>⟨(hx.2 j p1 p2 p3 p4).1.mono fun _ _ _ hv=>imm_setMap hb hv,(hx.2 j p1 p2 p3 p4).2.mono fun _ _ _ hv=>imm_setMap hb hv⟩⟩ hk
  ·rw[hget_ne ek]at hz
   have hkl:z.solid=true→g.ρ k≠g.ρ l:=fun hq eq=>by have:=s.heap.own k z hz hq;rw[eq,hown]at this;cases this;exact ek rfl
   have eo:z.solid=true→(World.setMap w (g.ρ l) es c).heap[g.ρ k]?=w.heap[g.ρ k]?:=fun hq=>setMap_other (hkl hq)
   cases s.heap.obj k z hz with
   |cells cs vs' E' hb' hl' hx' h1=>exact .cells cs vs' E' ((eo rfl).trans hb') hl' (fun j v c q1 q2=>(hx' j v c q1 q2).setMap hown hb hdom (by simp)) h1
   |arr xs vs' E' hb' hl' hx' h1=>exact .arr xs vs' E' ((eo rfl).trans hb') hl' (fun j v c q1 q2=>(hx' j v c q1 q2).mono fun _ _ _ hv=>imm_setMap hb hv) h1
   |map kd xs es clock hb' hx' hc=>exact .map kd xs es clock ((eo rfl).trans hb') ⟨hx'.1,fun j q1 q2 q3 q4=>⟨(hx'.2 j q1 q2 q3 q4).1.mono fun _ _ _ hv=>imm_setMap hb hv,(hx'.2 j q1 q2 q3 q4).2.mono fun _ _ _ hv=>imm_setMap hb hv⟩⟩ hc
   |gr st sz xs hg=>exact .gr st sz xs fun q=>(hg q).mono (fun _ _ _ hv=>imm_setMap hb hv) (fun _ _ hv=>(eo (gr_solid q)).trans hv)
   |dead=>exact .dead
   |glob gb gvs hgl=>exact ORel.globM hgl (fun h1 _ _=>⟨setMap_other (fun e=>by subst e;rw[hown]at h1;cases h1),h1⟩)
   |bld T E2 bs2 hbl=>exact ORel.bldM hbl rfl (eo rfl) (fun bb hb2=>⟨hb2,setMap_other (fun e=>by subst e;rw[hown]at hb2;cases hb2),rfl⟩)
   |store T3 o3 sp3 nx3 z3 M3 hst=>exact .store T3 o3 sp3 nx3 z3 M3 (hst.mono (fun _ _ _ hv=>imm_setMap hb hv) (fun bb hb2=>⟨hb2,setMap_other (fun e=>by subst e;rw[hown]at hb2;cases hb2;exact ek rfl),rfl⟩) hst.sown)
 ·by_cases ek:l=k
  ·subst ek;exact hown
  ·rw[hget_ne ek]at hz;exact s.heap.own k z hz hq
 ·by_cases ek:l=k
  ·subst ek;exact hpre
  ·rw[hget_ne ek]at hz;exact s.heap.pre k z hz hq
theorem aMakeMap_sound (hty:TyOK P ty) (hd:∀d,o.dst=some d→d<n) {t:Nat} (ho:o.op=.makeMap t none) (hk:aMakeMap ty o h t K):∃f,K f∧OpOK P n o e h f:=by
 unfold aMakeMap at hk;split at hk
 ·rename_i i d hi hdd
  split at hk
  ·rename_i kt et hde
   split at hk
   ·rename_i j hj
    split at hk
    ·rename_i kd hkd hfr
     obtain⟨hrd,hdb⟩:=freshId_spec hfr;refine⟨_,hk,fun e' h' he hl g w a s=>?_⟩;have hl0:hget h' d=none:=by rw[hl d (by simp)];exact hrd
     have hr:(execOp a.eval o).run P w=.ok (.value (.map (some w.heap.size))) (World.push w (.map #[] 0)):=by
      simp only[execOp,ho,Option.map_none,Instr.makeMap,Sem.run_bind,Sem.run_pure,newObj_push,Result.andThen_ok]
     refine Oper.wp_value hr ⟨g.newObj w.heap.size d,?_,Ext.push (fun b hb=>by simp[Gh.newObj,Nat.ne_of_lt hb]) (fun a=>frozen_push_map a) (fun l hl=>newObj_ρ hdb l hl)⟩;rw[hdd];simp only[List.reverse_cons,List.reverse_nil,List.nil_append,List.cons_append];have s':=s.pushObj hl0 (.map #[] 0) (.map kd []) (fun dom' hdm up=>.map kd [] #[] 0 (by simp[Gh.newObj,push_new]) ⟨rfl,by simp⟩ ⟨by simp,rfl,by simp⟩);refine s'.put (hd d hdd) ?_;have:w.heap.size=(g.newObj w.heap.size d).ρ d:=by simp[Gh.newObj]
     conv=>arg 5;rw[this]
     exact .mp _ _ (by simp[domOf,hget_self])
    ·exact hk.elim
   ·exact hk.elim
  ·exact hk.elim
 ·exact hk.elim
theorem aLookup_sound (hty:TyOK P ty) (hd:∀d,o.dst=some d→d<n) {t:Nat} {m k:Operand} {ok:Bool} (ho:o.op=.lookup t m k ok) (hk:aLookup ty o h t (ev e m) (ev e k) ok K):∃f,K f∧OpOK P n o e h f:=by
 have m1:m∈o.op.operands:=by simp[ho,Op.operands]
 have m2:k∈o.op.operands:=by simp[ho,Op.operands]
 have lres:∀{g:Gh} {w:World} {dom:Nat→Prop} {ow:Option Owner} {v:Value} {x:PV} (b:Bool),PRel (imm g w) v x→VRel g w dom ow (if ok then .tuple #[v,.bool b] else v) (lookRes ok x b):=by
  intro g w dom ow v x b hr
  cases ok with
  |false=>exact .p _ _ _ hr
  |true=>
   refine .tup _ [v,.bool b] [.p x,.p (.b b)] rfl (fun j v' c hv hc=>?_)
   match j with
   |0=>simp at hv hc;subst hv;subst hc;exact .p _ _ _ hr
   |1=>simp at hv hc;subst hv;subst hc;exact .p _ _ _ (.b b)
   |j+2=>simp at hv
 unfold aLookup at hk;split at hk
 ·rename_i i hi
  split at hk
  ·rename_i kt et hde
   have hu:=(hty t i hi).und;rw[hde]at hu;split at hk
   ·rename_i jk je hjk hje
    split at hk
    ·rename_i z l kp hz hm hkp
     split at hk
     ·rename_i kd xs hh
      split at hk
      ·rename_i ka kc hka hkb
       split at hk
       ·rename_i e1 e2
        have e1:=KD.eq_spec e1;have e2:=KD.eq_spec e2;subst e1;subst e2;obtain⟨x,b,hlook,hk⟩:=hk;refine retR_sound hd hk fun e' h' he hl' g w a s=>?_;obtain⟨_,r1⟩:=s.evo he m1 hm;obtain⟨_,r2⟩:=s.evo he m2 hkp;have r2:=r2.pv;generalize hv:a.eval m=v at r1
        cases r1 with
        |mp _ _ hdm=>
         rw[hh]at hl'
         cases s.heap.obj l _ hl' with
         |map _ _ es clock hb hxx hc=>
          have huk:=(hty kt jk hjk).und;have ck:=run_checkKey (P:=P) (w:=w) huk (isKey_of hka r2 hkb) es.isEmpty 9999;obtain⟨zv,hz1,hz2,_⟩:=zeroPV_spec hty hje hz (imm g w) w;rcases find_rel hka r2 hkb z es.toList xs 0 hxx hc.1 with⟨q1,q2,_⟩|⟨j,en,y,q1,q2,q3,q4,q5,_⟩
          ·have hf:=run_findKey (P:=P) (w:=w) huk q2
           rw[mlook,q1]at hlook;cases hlook;refine⟨_,?_,fun d _=>lres false (v:=zv) hz2⟩;simp only[execOp,ho,Instr.lookup,Sem.run_bind,run_underlying hu,Result.andThen_ok,hv,run_getObj_map hb,Sem.run_pure,ck,hf,hz1]
          ·have hf:=run_findKey (P:=P) (w:=w) huk q1
           have hp:=(hxx.2 j en y q2 q3).2;rw[mlook,q4]at hlook;cases hlook;refine⟨_,?_,fun d _=>lres true (v:=en.val) hp⟩;simp only[execOp,ho,Instr.lookup,Sem.run_bind,run_underlying hu,Result.andThen_ok,hv,run_getObj_map hb,Sem.run_pure,ck,hf]
       ·exact hk.elim
      ·exact hk.elim
     ·exact hk.elim
    ·rename_i z kp hz hm hkp
     split at hk
     ·rename_i ka kc hka hkb
      split at hk
      ·rename_i e1
       have e1:=KD.eq_spec e1;subst e1;refine ret_sound hd hk fun e' h' he g w a s=>?_;obtain⟨_,r1⟩:=s.evo he m1 hm;obtain⟨_,r2⟩:=s.evo he m2 hkp;have r2:=r2.pv;generalize hv:a.eval m=v at r1
       cases r1 with
       |c _ _ _=>
        have huk:=(hty kt jk hjk).und;have ck:=run_checkKey (P:=P) (w:=w) huk (isKey_of hka r2 hkb) (#[]:Array MapEntry).isEmpty 9999;obtain⟨zv,hz1,hz2,_⟩:=zeroPV_spec hty hje hz (imm g w) w;have hf:=run_findKey (P:=P) (w:=w) (k:=a.eval k) huk (l:=[]) (a:=none) rfl;refine⟨_,?_,fun d _=>lres false (v:=zv) hz2⟩;simp only[execOp,ho,Instr.lookup,Sem.run_bind,run_underlying hu,Result.andThen_ok,hv,Sem.run_pure,ck,hf,hz1]
      ·exact hk.elim
     ·exact hk.elim
    ·exact hk.elim
   ·exact hk.elim
  ·exact hk.elim
 ·exact hk.elim
theorem aMapUpdate_sound (hty:TyOK P ty) {t:Nat} {m k v:Operand} (ho:o.op=.mapUpdate t m k v∨o.op=.insert t m k v) (hdn:o.dst=none) (hk:aMapUpdate ty h t (ev e m) (ev e k) (ev e v) K):∃f,K f∧OpOK P n o e h f:=by
 have m1:m∈o.op.operands:=by rcases ho with ho|ho<;>simp[ho,Op.operands]
 have m2:k∈o.op.operands:=by rcases ho with ho|ho<;>simp[ho,Op.operands]
 have m3:v∈o.op.operands:=by rcases ho with ho|ho<;>simp[ho,Op.operands]
 have hex:∀(a:Act) (w:World),(execOp a.eval o:Sem Next).run P w=((do Instr.mapUpdate t (a.eval m) (a.eval k) (a.eval v);pure .skip):Sem Next).run P w:=by
  intro a w;rcases ho with ho|ho<;>simp only[execOp,ho]
 unfold aMapUpdate at hk;split at hk
 ·rename_i i hi
  split at hk
  ·rename_i kt et hde
   have hu:=(hty t i hi).und;rw[hde]at hu;split at hk
   ·rename_i jk je hjk hje
    split at hk
    ·rename_i l kp vp hm hkp hvp
     split at hk
     ·rename_i kd xs hh
      split at hk
      ·rename_i ka kc hka hkb
       split at hk
       ·rename_i e1 e2
        have e1:=KD.eq_spec e1;have e2:=KD.eq_spec e2;subst e1;subst e2;refine⟨_,hk,fun e' h' he hl g w a s=>?_⟩;have hl':hget h' l=some (.map kc xs):=by rw[hl l (by simp)];exact hh
        obtain⟨_,r1⟩:=s.evo he m1 hm;obtain⟨_,r2⟩:=s.evo he m2 hkp;obtain⟨_,r3⟩:=s.evo he m3 rfl;have r2:=r2.pv;have r3:=pureL_rel r3 hvp;generalize hv:a.eval m=mv at r1
        cases r1 with
        |mp _ _ hdm=>
         have hown:=s.heap.own l _ hl' rfl
         cases s.heap.obj l _ hl' with
         |map _ _ es clock hb hxx hc=>
          have huk:=(hty kt jk hjk).und;have ik:=isKey_of hka r2 hkb;have ck:=run_checkKey (P:=P) (w:=w) huk ik false 9999;rcases find_rel hka r2 hkb vp es.toList xs 0 hxx hc.1 with⟨q1,q2,q3⟩|⟨j,en,y,q1,q2,q3,q4,q5,q6⟩
          ·have hf:=run_findKey (P:=P) (w:=w) huk q2
           have hr:(execOp a.eval o).run P w=.ok .skip (World.setMap w (g.ρ l) (es.push { key:=a.eval k,val:=a.eval v,born:=clock }) (clock+1)):=by
            rw[hex];simp only[Instr.mapUpdate,Sem.run_bind,run_underlying hu,Result.andThen_ok,hv,run_getObj_map hb,ck,hf,run_setObj_map _ hb,Sem.run_pure];rfl
           refine Oper.wp_skip hr ⟨g,?_,Ext.setMap hown hb⟩;rw[hdn,q3];refine s.setMap hl' hb ⟨?_,fun j p1 p2 p3 p4=>?_⟩ ⟨fun x hx=>?_,hc.2.push⟩
           ·have:=hxx.1;simp at this;simp[this]
           ·have hxl:=hxx.1
            simp only[Array.length_toList]at hxl;simp only[Array.toList_push]at p3
            by_cases hj:j<es.size
            ·rw[List.getElem?_append_left (by simpa using hj)]at p3
             rw[List.getElem?_append_left (by omega)]at p4;exact hxx.2 j p1 p2 p3 p4
            ·rw[List.getElem?_append_right (by simpa using hj)]at p3
             rw[List.getElem?_append_right (by omega)]at p4
             have:j=es.size:=by
              have:=(List.getElem?_eq_some_iff.1 p3).1;simp at this;omega
             subst this;simp at p3;rw[hxl]at p4;simp at p4;subst p3;subst p4;exact⟨r2,r3⟩
           ·rcases List.mem_append.1 hx with hx|hx
            ·exact hc.1 x hx
            ·simp at hx;subst hx;exact hkb
          ·have hf:=run_findKey (P:=P) (w:=w) huk q1
           have hr:(execOp a.eval o).run P w=.ok .skip (World.setMap w (g.ρ l) (es.modify (0+j) fun e=>{ e with key:=a.eval k,val:=a.eval v }) clock):=by
            rw[hex]
            have hkey:((es[0+j]?).map (·.key)).getD (a.eval k)=a.eval k:=by
             have:es[0+j]?=some en:=by simpa using q2
             rw[this];simpa using q5
            simp only[Instr.mapUpdate,Sem.run_bind,run_underlying hu,Result.andThen_ok,hv,run_getObj_map hb,ck,hf,hkey,run_keyThatStays ik,run_setObj_map _ hb,Sem.run_pure];rfl
           refine Oper.wp_skip hr ⟨g,?_,Ext.setMap hown hb⟩;rw[hdn,q6];refine s.setMap hl' hb ⟨?_,fun j' p1 p2 p3 p4=>?_⟩ ⟨fun x hx=>?_,hc.2.modify⟩
           ·have:=hxx.1;simp at this;simp[this]
           ·rw[Array.getElem?_toList,Array.getElem?_modify]at p3
            rw[List.getElem?_set]at p4
            by_cases hjj:j=j'
            ·subst hjj
             have hjl:j<xs.length:=(List.getElem?_eq_some_iff.1 q3).1;rw[if_pos rfl,if_pos hjl]at p4;have:es[j]?=some en:=by simpa using q2
             simp[this]at p3;simp at p4;subst p3;subst p4;exact⟨r2,r3⟩
            ·rw[if_neg (by simpa using hjj)]at p3
             rw[if_neg hjj]at p4;exact hxx.2 j' p1 p2 (by simpa using p3) p4
           ·rcases List.mem_or_eq_of_mem_set hx with hx|rfl
            ·exact hc.1 x hx
            ·exact hkb
       ·exact hk.elim
      ·exact hk.elim
     ·exact hk.elim
    ·exact hk.elim
   ·exact hk.elim
  ·exact hk.elim
 ·exact hk.elim
end
end Go.AM
end
section
namespace Go.AM
section
variable {P:Program} {ty:Nat→Option TI} {n:Nat} {o:Oper} {e:Env} {h:Heap} {K:AK}
theorem aIndex_sound (hty:TyOK P ty) (hd:∀d,o.dst=some d→d<n) {t:Nat} {x ix:Operand} (ho:o.op=.index t x ix) (hk:aIndex ty o t (ev e x) (ev e ix) K):∃f,K f∧OpOK P n o e h f:=by
 have m1:x∈o.op.operands:=by simp[ho,Op.operands]
 have m2:ix∈o.op.operands:=by simp[ho,Op.operands]
 unfold aIndex at hk;split at hk
 ·rename_i i hi
  split at hk
  ·rename_i s0 k m hde hx hix
   have hu:=(hty t i hi).und;rw[hde]at hu;obtain⟨_,⟨h0,hlt⟩,rfl,hk⟩:=hk;refine ret_sound hd hk fun e' h' he g w a s=>?_;obtain⟨_,r1⟩:=s.evo he m1 hx;obtain⟨_,r2⟩:=s.evo he m2 hix;refine⟨_,?_,fun d _=>.p _ _ _ (.i _ _)⟩;have hlt':m.toNat<s0.size:=by omega
   have hg:s0[m.toNat]?=some s0[m.toNat]:=getElem?_pos s0 m.toNat hlt';simp[execOp,ho,Instr.index,r1.str,r2.int,asIntOf,run_underlying hu,h0,hg]
  ·exact hk.elim
 ·exact hk.elim
theorem aMin_sound (hd:∀d,o.dst=some d→d<n) {x y:Operand} {ts:Array TypeId} (ho:o.op=.call { callee:=.builtin .min,args:=⟨[x,y]⟩,argTypes:=ts })
 (hk:match ev e x,ev e y with
 |.p (.i k a),.p (.i k' b)=>match decide (k=k') with
  |true=>ret o (.p (.i k (if b<a then b else a))) K
  |false=>AStuck "min"
 |_,_=>AStuck "min"):∃f,K f∧OpOK P n o e h f:=by
 have m1:x∈o.op.operands:=by simp[ho,Op.operands,Call.operands]
 have m2:y∈o.op.operands:=by simp[ho,Op.operands,Call.operands]
 split at hk
 ·rename_i k a1 k' b1 hx hy
  split at hk
  ·rename_i hkk
   have hkk:=of_decide_eq_true hkk;subst hkk;refine ret_sound hd hk fun e' h' he g w a s=>?_;obtain⟨_,r1⟩:=s.evo he m1 hx;obtain⟨_,r2⟩:=s.evo he m2 hy;refine⟨_,?_,fun d _=>.p _ _ _ (.i _ _)⟩;obtain⟨cs,hcs⟩:=run_builtin_call (P:=P) ho a w;rw[hcs];simp[builtin,Builtin.min_,r1.int,r2.int,Builtin.min2]
  ·exact hk.elim
 ·exact hk.elim
theorem aMax_sound (hd:∀d,o.dst=some d→d<n) {x y:Operand} {ts:Array TypeId} (ho:o.op=.call { callee:=.builtin .max,args:=⟨[x,y]⟩,argTypes:=ts })
 (hk:match ev e x,ev e y with
 |.p (.i k a),.p (.i k' b)=>match decide (k=k') with
  |true=>ret o (.p (.i k (if a<b then b else a))) K
  |false=>AStuck "max"
 |_,_=>AStuck "max"):∃f,K f∧OpOK P n o e h f:=by
 have m1:x∈o.op.operands:=by simp[ho,Op.operands,Call.operands]
 have m2:y∈o.op.operands:=by simp[ho,Op.operands,Call.operands]
 split at hk
 ·rename_i k a1 k' b1 hx hy
  split at hk
  ·rename_i hkk
   have hkk:=of_decide_eq_true hkk;subst hkk;refine ret_sound hd hk fun e' h' he g w a s=>?_;obtain⟨_,r1⟩:=s.evo he m1 hx;obtain⟨_,r2⟩:=s.evo he m2 hy;refine⟨_,?_,fun d _=>.p _ _ _ (.i _ _)⟩;obtain⟨cs,hcs⟩:=run_builtin_call (P:=P) ho a w;rw[hcs];simp[builtin,Builtin.max_,r1.int,r2.int,Builtin.max2]
  ·exact hk.elim
 ·exact hk.elim
theorem aMax3_sound (hd:∀d,o.dst=some d→d<n) {x y z:Operand} {ts:Array TypeId} (ho:o.op=.call { callee:=.builtin .max,args:=⟨[x,y,z]⟩,argTypes:=ts })
 (hk:match ev e x,ev e y,ev e z with
 |.p (.i k a),.p (.i k' b),.p (.i k2 c)=>match decide (k=k'),decide (k=k2) with
  |true,true=>ret o (.p (.i k (imax (imax a b) c))) K
  |_,_=>AStuck "max"
 |_,_,_=>AStuck "max"):∃f,K f∧OpOK P n o e h f:=by
 have m1:x∈o.op.operands:=by simp[ho,Op.operands,Call.operands]
 have m2:y∈o.op.operands:=by simp[ho,Op.operands,Call.operands]
 have m3:z∈o.op.operands:=by simp[ho,Op.operands,Call.operands]
 split at hk
 ·rename_i k a1 k' b1 k2 c1 hx hy hz
  split at hk
  ·rename_i hkk hkk2
   have hkk:=of_decide_eq_true hkk;have hkk2:=of_decide_eq_true hkk2;subst hkk;subst hkk2;refine ret_sound hd hk fun e' h' he g w a s=>?_;obtain⟨_,r1⟩:=s.evo he m1 hx;obtain⟨_,r2⟩:=s.evo he m2 hy;obtain⟨_,r3⟩:=s.evo he m3 hz;refine⟨_,?_,fun d _=>.p _ _ _ (.i _ _)⟩;obtain⟨cs,hcs⟩:=run_builtin_call (P:=P) ho a w;rw[hcs];simp only[builtin,Builtin.max_,imax];simp[r1.int,r2.int,r3.int,Builtin.max2]
   by_cases q:a1<b1<;>simp[q]
  ·exact hk.elim
 ·exact hk.elim
theorem aMakeSlice_sound (hty:TyOK P ty) (hd:∀d,o.dst=some d→d<n) {t:Nat} {x y:Operand} (ho:o.op=.makeSlice t x y) (hk:aMakeSlice ty o h t (ev e x) (ev e y) K):∃f,K f∧OpOK P n o e h f:=by
 have m1:x∈o.op.operands:=by simp[ho,Op.operands]
 have m2:y∈o.op.operands:=by simp[ho,Op.operands]
 unfold aMakeSlice at hk;split at hk
 ·rename_i i d hi hdd
  split at hk
  ·rename_i el hde
   have hu:=(hty t i hi).und;rw[hde]at hu;split at hk
   ·rename_i j hj
    split at hk
    ·rename_i z k1 x1 k2 y1 hz hx hy hfr hag hby
     have hby:j.bytes≠0:=fun q=>by rw[q]at hby;cases hby
     obtain⟨⟨rfl,h0,hmax⟩,hk⟩:=hk;obtain⟨hrd,hdb⟩:=freshId_spec hfr;refine⟨_,hk,fun e' h' he hl g w a s=>?_⟩;have hl0:hget h' d=none:=by rw[hl d (by simp)];exact hrd
     obtain⟨_,r1⟩:=s.evo he m1 hx;obtain⟨_,r2⟩:=s.evo he m2 hy;obtain⟨m,rfl⟩:∃m:Nat,x1=m:=⟨x1.toNat,by omega⟩
     have hmb:m*j.bytes≤140737488355328:=by omega
     have hm1:m≤140737488355328:=Nat.le_trans (Nat.le_mul_of_pos_right m (Nat.pos_of_ne_zero hby)) hmb;obtain⟨zv,z1,z2,z3⟩:=zeroPV_spec hty hj hz (imm g w) w;obtain⟨inf,zv',f1,f2,f3,f4,f5,f6⟩:=(hty el j hj).inf
     have hzv:zv'=zv:=by
      have:(zeroValue el).run P w=.ok zv' w:=by simp[zeroValue,typeInfo,f1,f4]
      rw[z1]at this;cases this;rfl
     subst hzv
     have hnag:zv'.cells=#[zv']:=by
      obtain⟨inf',z',e1,e2,e3⟩:=(hty el j hj).noz hag;rw[f1]at e1;cases e1;rw[f4]at e2;cases e2;exact e3
     have hs1:inf.size=1:=by rw[f2,←f6,←f5,hnag];rfl
     have hone:zv'.oneCell'=true:=by
      have:=(hty el j hj).one zv' (by rw[←f5,hnag];simp);exact this
     have hr:(execOp a.eval o).run P w=.ok (.value (.slice (some ⟨w.heap.size,0,none⟩) m m)) (World.push w (.cells (Array.replicate m zv') el (0,0))):=by
      have hbi:(inf.bytes:Int)*(m:Int)≤281474976710656:=by rw[f3,Int.mul_comm];omega
      have hmk:=run_make (P:=P) w t el inf zv' hu f1 f4 k1 k2 m m (by omega) (by omega) hbi (by omega)
      have hcells:madeCells zv'.cells ((m:Int).toNat*inf.size)=Array.replicate m zv':=by
       rw[hs1,hnag]
       apply Array.ext
       ·simp[madeCells]
       ·intro q q1 q2
        simp[madeCells,Nat.mod_one]
      rw[hcells]at hmk;simp only[execOp,ho,r1.int,r2.int,Sem.run_bind,hmk,Result.andThen_ok,Sem.run_pure];simp only[Int.toNat_natCast];rfl
     refine Oper.wp_value hr ⟨g.newObj w.heap.size d,?_,Ext.push (fun b hb=>by simp[Gh.newObj,Nat.ne_of_lt hb]) (fun a=>frozen_push a) (fun l hl=>newObj_ρ hdb l hl)⟩;rw[hdd];simp only[List.reverse_cons,List.reverse_nil,List.nil_append,List.cons_append];have hob:(World.push w (.cells (Array.replicate m zv') el (0,0))).heap[(g.newObj w.heap.size d).ρ d]?=some (.cells (Array.replicate m zv') el (0,0)):=by simp[Gh.newObj,push_new]
     have s':=s.pushObj hl0 (.cells (Array.replicate m zv') el (0,0)) (.arr (List.replicate m z)) (fun dom' hdm up=>.arr (List.replicate m z) (Array.replicate m zv') el hob (by simp) (fun q v y q1 q2=>by
      have e1:v=zv':=by rw[Array.getElem?_replicate]at q1;split at q1<;>simp_all
      have e2:y=z:=by rw[List.getElem?_replicate]at q2;split at q2<;>simp_all
      subst e1;subst e2;exact z2.push (fun b hb=>by simp[Gh.newObj,Nat.ne_of_lt hb])) (fun v hv=>by
      have e1:v=zv':=by simp at hv;exact hv.2
      subst e1;exact hone))
     rw[show((m:Int)).toNat=m by omega];refine s'.put (hd d hdd) ?_;have:w.heap.size=(g.newObj w.heap.size d).ρ d:=by simp[Gh.newObj]
     conv=>arg 5;rw[this]
     exact .ar _ _ _ (by simp[domOf,hget_self]) ⟨_,_,hob,by simp⟩
    ·exact hk.elim
   ·exact hk.elim
  ·exact hk.elim
 ·exact hk.elim
end
end Go.AM
end
section
namespace Go.AM
mutual
def AV.within (d:Nat→Bool):AV→Bool
 |.agg cs=>AV.withins d cs
 |.tup cs=>AV.withins d cs
 |.fn _ a b=>AV.withins d a&&AV.withins d b
 |.ptr l _=>d l
 |.mp l=>d l
 |.ar l=>d l
 |.ap l _=>d l
 |.al _ l _ _=>d l
 |.ep l _ _ _=>d l
 |.tl l _ _ _=>d l
 |_=>true
def AV.withins (d:Nat→Bool):List AV→Bool
 | []=>true
 |v::r=>AV.within d v&&AV.withins d r
end
theorem withins_get (d:Nat→Bool):∀(xs:List AV),AV.withins d xs=true→∀(j:Nat) (x:AV),xs[j]?=some x→x.within d=true
 | [],_,j,x,hx=>by simp at hx
 |y::r,h,j,x,hx=>by
  simp only[AV.withins,Bool.and_eq_true]at h
  cases j with
  |zero=>simp at hx;subst hx;exact h.1
  |succ j=>simp at hx;exact withins_get d r h.2 j x hx
theorem VRel.within {g:Gh} {w:World} {dom dom':Nat→Prop} {d:Nat→Bool} (hd:∀l,d l=true→dom' l) {ow:Option Owner} {v:Value} {x:AV} (r:VRel g w dom ow v x) (hx:x.within d=true):VRel g w dom' ow v x:=by
 induction r with
 |top=>exact .top _ _
 |p _ _ _ h=>exact .p _ _ _ h
 |c _ _ h1=>exact .c _ _ h1
 |nilS=>exact .nilS _
 |es _ a cap sz hs=>exact .es _ a cap sz hs
 |full _ a sz xs hz h=>exact .full _ a sz xs hz h
 |own o a cap sz xs cs E hz h ho hp hb hs=>exact .own o a cap sz xs cs E hz h ho hp hb hs
 |ptr _ l off h=>exact .ptr _ l off (hd l (by simpa[AV.within] using hx))
 |vp _ a cs f hs hm hxx=>exact .vp _ a cs f hs hm hxx
 |agg _ vs cs hl h1 _ ih=>exact .agg _ vs cs hl h1 (fun j v c q1 q2=>ih j v c q1 q2 (withins_get d cs (by simpa[AV.within] using hx) j c q2))
 |tup _ vs cs hl _ ih=>exact .tup _ vs cs hl (fun j v c q1 q2=>ih j v c q1 q2 (withins_get d cs (by simpa[AV.within] using hx) j c q2))
 |mp _ l h=>exact .mp _ l (hd l (by simpa[AV.within] using hx))
 |ar _ l m h hn=>exact .ar _ l m (hd l (by simpa[AV.within] using hx)) hn
 |ap _ l i h=>exact .ap _ l i (hd l (by simpa[AV.within] using hx))
 |ifc _ b v h=>exact .ifc _ b v h
 |al0 _ l sz h=>exact .al0 _ l sz (hd l (by simpa[AV.within] using hx))
 |al _ st l sz m cap h h0 hc hn=>exact .al _ st l sz m cap (hd l (by simpa[AV.within] using hx)) h0 hc hn
 |ep _ l sz i c h=>exact .ep _ l sz i c (hd l (by simpa[AV.within] using hx))
 |tl _ a l sz i m cap h ha hn=>exact .tl _ a l sz i m cap (hd l (by simpa[AV.within] using hx)) ha hn
 |fn _ f fs cs first caps h1 h2 _ _ ih1 ih2=>
  have hx:AV.withins d first=true∧AV.withins d caps=true:=by simpa[AV.within] using hx
  exact .fn _ f fs cs first caps h1 h2 (fun j v c q1 q2=>ih1 j v c q1 q2 (withins_get d first hx.1 j c q2)) (fun j v c q1 q2=>ih2 j v c q1 q2 (withins_get d caps hx.2 j c q2))
def AObj.within (d:Nat→Bool):AObj→Bool
 |.cells cs=>AV.withins d cs
 |_=>true
def memB (l:List Nat) (i:Nat):Bool:=match l with
 | []=>false
 |x::r=>match Nat.beq x i with|true=>true|false=>memB r i
theorem memB_mem:∀(l:List Nat) (i:Nat),memB l i=true→i∈l
 | [],i,h=>by simp[memB]at h
 |x::r,i,h=>by
  simp only[memB]at h;split at h
  ·rename_i q;have:=Nat.eq_of_beq_eq_true q;simp[this]
  ·exact List.mem_cons_of_mem _ (memB_mem r i h)
section
variable {P:Program} {ty:Nat→Option TI} {n:Nat} {o:Oper} {e:Env} {h:Heap} {K:AK}
def hasBody (P:Program) (f:Nat):Prop:=∃fn c,P.funcs[f]?=some fn∧fn.body=some c∧(fn.name== "runtime.NumGoroutine")=false
def APure (P:Program) (f:Nat) (args:List AV) (r:AV):Prop:=
 hasBody P f∧∀(g:Gh) (w:World) (vs:List Value),(∀b,g.own b=none)→(∀q,g.sown q=none)→vs.length=args.length→(∀(j:Nat) (v:Value) (x:AV),vs[j]?=some v→args[j]?=some x→VRel g w (fun _=>False) none v x)→
  Calls P f vs.toArray w fun en w'=>∃v g',en=.returned v∧VRel g' w' (fun _=>False) (some .ret) v r∧Ext g w g' w'
theorem frees_get:∀(xs:List AV),AV.frees xs=true→∀(j:Nat) (x:AV),xs[j]?=some x→x.free=true
 | [],_,j,x,hx=>by simp at hx
 |y::r,h,j,x,hx=>by
  simp only[AV.frees,Bool.and_eq_true]at h
  cases j with
  |zero=>simp at hx;subst hx;exact h.1
  |succ j=>simp at hx;exact frees_get r h.2 j x hx
theorem VRel.toFree {g:Gh} {w:World} {dom dom':Nat→Prop} {ow:Option Owner} {v:Value} {x:AV} (r:VRel g w dom ow v x) (hx:x.free=true) (own':Nat→Option Owner) (ow':Option Owner) (sw':Nat→Option Nat:=g.sown):
 VRel { g with own:=own',sown:=sw' } w dom' ow' v x:=by
 induction r generalizing ow' with
 |top=>exact .top _ _
 |p _ _ _ h=>exact .p _ _ _ h
 |c _ _ h1=>exact .c _ _ h1
 |nilS=>exact .nilS _
 |es _ a cap sz hs=>exact .es _ a cap sz hs
 |full=>simp[AV.free]at hx
 |own=>simp[AV.free]at hx
 |ptr=>simp[AV.free]at hx
 |vp _ a cs f hs hm hxx=>exact .vp _ a cs f hs hm hxx
 |agg _ vs cs hl h1 _ ih=>exact .agg _ vs cs hl h1 (fun j v c q1 q2=>ih j v c q1 q2 (frees_get cs (by simpa[AV.free] using hx) j c q2) none)
 |tup _ vs cs hl _ ih=>exact .tup _ vs cs hl (fun j v c q1 q2=>ih j v c q1 q2 (frees_get cs (by simpa[AV.free] using hx) j c q2) none)
 |mp=>simp[AV.free]at hx
 |ar=>simp[AV.free]at hx
 |ap=>simp[AV.free]at hx
 |ifc _ b v h=>exact .ifc _ b v h
 |al0=>simp[AV.free]at hx
 |al=>simp[AV.free]at hx
 |ep=>simp[AV.free]at hx
 |tl=>simp[AV.free]at hx
 |fn _ f fs cs first caps h1 h2 _ _ ih1 ih2=>
  have hx:AV.frees first=true∧AV.frees caps=true:=by simpa[AV.free] using hx
  exact .fn _ f fs cs first caps h1 h2 (fun j v c q1 q2=>ih1 j v c q1 q2 (frees_get first hx.1 j c q2) none) (fun j v c q1 q2=>ih2 j v c q1 q2 (frees_get caps hx.2 j c q2) none)
theorem Sim.called {g g':Gh} {w w':World} {a:Act} {e:Env} {h:Heap} (s:Sim g w n a e h) (hx:Ext { g with own:=fun _=>none,sown:=fun _=>none } w g' w') (d:Nat):
 Sim { pre:=g'.pre,own:=fun b=>if b<w.heap.size then g.own b else if b<w'.heap.size∧g'.own b=some .ret then some (.slot d) else none,ρ:=g.ρ,σ:=g'.σ,sown:=g.sown } w' n a e h∧
 Ext g w { pre:=g'.pre,own:=fun b=>if b<w.heap.size then g.own b else if b<w'.heap.size∧g'.own b=some .ret then some (.slot d) else none,ρ:=g.ρ,σ:=g'.σ,sown:=g.sown } w'∧
 ∀v r,VRel g' w' (fun _=>False) (some .ret) v r→VRel { pre:=g'.pre,own:=fun b=>if b<w.heap.size then g.own b else if b<w'.heap.size∧g'.own b=some .ret then some (.slot d) else none,ρ:=g.ρ,σ:=g'.σ,sown:=g.sown } w' (domOf h) (some (.slot d)) v r:=by
 generalize hG:({ pre:=g'.pre,own:=fun b=>if b<w.heap.size then g.own b else if b<w'.heap.size∧g'.own b=some .ret then some (.slot d) else none,ρ:=g.ρ,σ:=g'.σ,sown:=g.sown }:Gh)=G;have Gpre:G.pre=g'.pre:=by rw[←hG]
 have Gρ:G.ρ=g.ρ:=by rw[←hG]
 have Gσ:G.σ=g'.σ:=by rw[←hG]
 have Gsown:G.sown=g.sown:=by rw[←hG]
 have hsσ:∀s k a,g.σ s k=some a→G.σ s k=some a:=fun s k a q=>by rw[Gσ];exact hx.frz.1 s k a q
 have Gold:∀b,b<w.heap.size→G.own b=g.own b:=fun b hb=>by rw[←hG];simp[hb]
 have Gnew:∀b,¬b<w.heap.size→G.own b=if b<w'.heap.size∧g'.own b=some .ret then some (.slot d) else none:=fun b hb=>by rw[←hG];simp[hb]
 have kept:∀b,b<w.heap.size→w'.heap[b]?=w.heap[b]?∧G.pre b=g.pre b:=fun b hb=>by
  obtain⟨q1,q2,_⟩:=hx.kept b hb rfl;exact⟨q1,by rw[Gpre];exact q2⟩
 have himm:∀b k v,imm g w b k=some v→imm G w' b k=some v:=fun b k v hv=>by
  have:=hx.imm b k v hv;simp only[imm_eq]at this ⊢;rw[Gpre];exact this
 have up:∀{ow v x},VRel g w (domOf h) ow v x→VRel G w' (domOf h) ow v x:=fun r=>
  r.keep himm (fun l hl=>⟨hl,by rw[Gρ]⟩) (fun l cs E hl hb=>⟨cs,E,by rw[(kept _ (get_lt hb)).1];exact hb,rfl⟩)
   (fun o b _ ho=>by have hb:=s.bnd b o ho;exact⟨(Gold b hb).trans ho,(kept b hb).2,(kept b hb).1⟩) (hsg:=hsσ)
 refine⟨⟨s.defers,s.size,fun i=>up (s.env i),⟨fun l x hxl=>?_,fun l x hxl hq=>?_,fun l x hxl hq=>?_⟩,fun b o2 hb=>?_⟩,⟨hx.size,hx.os,hx.out,himm,fun b hb ho=>⟨(kept b hb).1,(kept b hb).2,(Gold b hb).trans ho⟩,⟨hsσ,Gsown,fun s q k=>by rw[Gσ];exact hx.frz.2.2 s rfl k⟩,hx.frz',fun _ _=>by rw[Gρ],hx.siz⟩,fun v r hr=>?_⟩
 ·have eo:∀{ob},w.heap[g.ρ l]?=some ob→w'.heap[G.ρ l]?=some ob:=fun hb=>by rw[Gρ,(kept _ (get_lt hb)).1];exact hb
  cases s.heap.obj l x hxl with
  |cells cs vs E hb hl hx' h1=>exact .cells cs vs E (eo hb) hl (fun j v c q1 q2=>up (hx' j v c q1 q2)) h1
  |arr xs vs E hb hl hx' h1=>exact .arr xs vs E (eo hb) hl (fun j v c q1 q2=>(hx' j v c q1 q2).mono himm hsσ) h1
  |gr st sz xs hg=>exact .gr st sz xs fun q=>(hg q).mono himm (fun _ _ hv=>eo hv) hsσ
  |dead=>exact .dead
  |glob gb gvs hgl=>exact ORel.globM hgl (fun h1 hlt _=>⟨(kept gb hlt).1,(Gold gb hlt).trans h1⟩)
  |bld T E2 bs2 hbl=>exact ORel.bldM hbl (by rw[Gρ]) (by obtain⟨_,_,hb,_⟩:=hbl;exact(kept _ (get_lt hb)).1) (fun bb hb2=>⟨(Gold bb (s.bnd bb _ hb2)).trans hb2,(kept bb (s.bnd bb _ hb2)).1,(kept bb (s.bnd bb _ hb2)).2⟩)
  |store T3 o3 sp3 nx3 z3 M3 hst=>exact .store T3 o3 sp3 nx3 z3 M3 (hst.mono himm (fun bb hb2=>⟨(Gold bb (s.bnd bb _ hb2)).trans hb2,(kept bb (s.bnd bb _ hb2)).1,(kept bb (s.bnd bb _ hb2)).2⟩) (by rw[Gsown];exact hst.sown) (hs:=hsσ) (he:=fun k=>by rw[Gσ];exact hx.frz.2.2 sp3 rfl k))
  |map kd xs es clock hb hx' hc=>exact .map kd xs es clock (eo hb) ⟨hx'.1,fun j p1 p2 p3 p4=>⟨(hx'.2 j p1 p2 p3 p4).1.mono himm hsσ,(hx'.2 j p1 p2 p3 p4).2.mono himm hsσ⟩⟩ hc
 ·have ho:=s.heap.own l x hxl hq
  rw[Gρ,Gold _ (s.bnd _ _ ho)];exact ho
 ·have ho:=s.heap.own l x hxl hq
  rw[Gρ,(kept _ (s.bnd _ _ ho)).2];exact s.heap.pre l x hxl hq
 ·by_cases hlt:b<w.heap.size
  ·exact Nat.lt_of_lt_of_le hlt hx.size
  ·rw[Gnew b hlt]at hb
   split at hb
   ·rename_i q;exact q.1
   ·cases hb
 ·have hi2:∀b k v,imm g' w' b k=some v→imm G w' b k=some v:=fun b k v hv=>by simp only[imm_eq]at hv ⊢;rw[Gpre];exact hv
  have conv:∀{ow v x},ow=none→VRel g' w' (fun _=>False) ow v x→VRel G w' (domOf h) ow v x:=fun q r=>
   r.keep hi2 (fun _ hf=>hf.elim) (fun _ _ _ hf=>hf.elim) (fun o b e1 _=>by rw[q]at e1;cases e1) (hsg:=fun s k a q=>by rw[Gσ];exact q)
  cases r with
  |so sz xs=>
   cases hr with
   |full _ a _ _ hz hp=>exact .full _ a sz xs hz (hp.mono hi2 (fun s k a q=>by show G.σ s k=some a;rw[Gσ];exact q))
   |own _ a cap _ _ cs E hz hp ho hpre hb hs=>
    have hge:¬a.block<w.heap.size:=fun hlt=>by rw[(hx.kept _ hlt rfl).2.2]at ho;cases ho
    have hlt':a.block<w'.heap.size:=by
     rcases Nat.lt_or_ge a.block w'.heap.size with q|q
     ·exact q
     ·rw[Array.getElem?_eq_none q]at hb;cases hb
    exact .own (.slot d) a cap sz xs cs E hz (hp.mono hi2 (fun s k a q=>by show G.σ s k=some a;rw[Gσ];exact q)) (by rw[Gnew _ hge,if_pos ⟨hlt',ho⟩]) (by rw[Gpre];exact hpre) hb hs
  |_=>exact(conv rfl (hr.anyOwner (ow':=none) (fun _ _ q=>by cases q))).anyOwner (fun _ _ q=>by cases q)
theorem argOf_spec {a:Act} {g:Gh} {w:World} {e':Env} {h':Heap} (s:Sim g w n a e' h') (he:∀t∈slotsOf o,eget e' t=eget e t):∀(xs:List Operand) (ts:List Nat),(∀x∈xs,x∈o.op.operands)→
 (argOf ty e xs ts).length=xs.length∧∀(j:Nat) (x:Operand) (y:AV),xs[j]?=some x→(argOf ty e xs ts)[j]?=some y→∃ow,VRel g w (domOf h') ow (a.eval x) y
 | [],ts,_=>by simp[argOf]
 |x::r,ts,hm=>by
  obtain⟨k1,k2⟩:=argOf_spec s he r ts.tail (fun x hx=>hm x (by simp[hx]));refine⟨by simp[argOf,k1],fun j x' y hx hy=>?_⟩
  cases j with
  |zero=>
   simp only[argOf,List.getElem?_cons_zero,Option.some.injEq]at hx hy;subst hx;obtain⟨ow,r1⟩:=s.evo he (hm x (by simp)) rfl;split at hy
   ·rename_i hn
    rw[hn]at r1;subst hy;generalize a.eval x=v at r1
    cases r1 with
    |nilS=>cases keepN ty (headD ts) with
     |true=>exact⟨none,.nilS _⟩
     |false=>exact⟨none,.p _ _ _ (.nil _)⟩
   ·rename_i sz hn
    rw[hn]at r1;subst hy;generalize a.eval x=v at r1
    cases r1 with
    |es _ ad cap _ hs=>exact⟨none,.p _ _ _ (.sl ad cap sz [] (fun _ _=>undef) hs (Nat.zero_le _) (by simp) (by simp) (by simp))⟩
   ·rename_i sz xs hn
    rw[hn]at r1;subst hy;exact⟨none,r1.copy⟩
   ·rename_i cs hn
    rw[hn]at r1;subst hy;exact⟨_,aggTy_rel _ r1⟩
   ·subst hy;exact⟨ow,r1⟩
  |succ j=>simp only[argOf,List.getElem?_cons_succ]at hx hy;exact k2 j x' y hx hy
theorem run_call_value {x:Operand} {az:List Operand} {ts:Array TypeId} (ho:o.op=.call { callee:=.value x,args:=⟨az⟩,argTypes:=ts }) {a:Act} {w:World} {f:Nat} {fs cs:List Value} (hx:a.eval x=.func (.func f) fs.toArray cs.toArray) (hb:hasBody P f):
 (execOp a.eval o).run P w=.ok (.enter f (fs++az.map a.eval++cs).toArray) w:=by
 obtain⟨fn,c,h1,h2,h3⟩:=hb;have hnn:¬fn.name= "runtime.NumGoroutine":=by simpa using h3
 simp[execOp,ho,resolve,hx,Deferred.ofValue,invoke,callFunc,h1,h2,hnn]
theorem run_call_invoke {x:Operand} {name:String} {az:List Operand} {ts:Array TypeId} (ho:o.op=.call { callee:=.invoke x name,args:=⟨az⟩,argTypes:=ts }) {a:Act} {w:World} {f T:Nat} {v:Value} (hx:a.eval x=.iface T v) (hm:Meth P T name f) (hb:hasBody P f):
 (execOp a.eval o).run P w=.ok (.enter f (v::az.map a.eval).toArray) w:=by
 obtain⟨fn,c,h1,h2,h3⟩:=hb;have hnn:¬fn.name= "runtime.NumGoroutine":=by simpa using h3
 have hm':=hm v w;simp[execOp,ho,resolve,hx,invoke,callMethod,hm',callFunc,h1,h2,hnn];exact List.take_of_length_le (by simp)
end
end Go.AM
end
