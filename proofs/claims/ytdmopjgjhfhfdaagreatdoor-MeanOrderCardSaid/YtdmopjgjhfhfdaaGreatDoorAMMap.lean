/- Part of a machine over plain values. No conditions. -/
import Derived.Test.YtdmopjgjhfhfdaaGreatDoorAMSndA
namespace Go.AM
open MapKept
section
variable {P:Program} {ty:Nat→Option TI} {n:Nat} {o:Oper} {e:Env} {h:Heap} {K:AK}
theorem MapOK.push {es:Array MapEntry} {c:Nat} (h:MapOK es c) {k v:Value}:MapOK (es.push { key:=k,val:=v,born:=c }) (c+1):=by
 refine⟨by simp[h.1],fun j e he=>?_⟩;rw[Array.getElem?_push]at he;split at he
 ·rename_i hj;cases he;rw[hj];exact h.1
 ·exact h.2 j e he
theorem MapOK.modify {es:Array MapEntry} {c i:Nat} (h:MapOK es c) {k v:Value}:MapOK (es.modify i fun e=>{ e with key:=k,val:=v }) c:=by
 refine⟨by simp[h.1],fun j e he=>?_⟩;rw[Array.getElem?_modify]at he;split at he
 ·cases hq:es[j]? with
  |none=>simp[hq]at he
  |some e0=>simp[hq]at he;subst he;exact h.2 j e0 hq
 ·exact h.2 j e he
theorem isKey_of {M:Mm} {d:TypeDesc} {kd:KD} (h1:kdD d=some kd) {v:Value} {x:PV} (r:PRel M v x) (h2:kdOf x=some kd):IsKey d v:=by
 cases d<;>simp[kdD]at h1<;>subst h1<;>cases r<;>simp_all [kdOf,IsKey]
theorem pvEq_iff {M:Mm} {kd:KD} {v u:Value} {x y:PV} (r1:PRel M v x) (r2:PRel M u y) (h1:kdOf x=some kd) (h2:kdOf y=some kd):pvEq x y=true↔v=u:=by
 cases r1<;>simp[kdOf]at h1<;>subst h1<;>cases r2<;>simp_all [kdOf,pvEq,bytes_beq]
theorem find_rel {M:Mm} {d:TypeDesc} {kd:KD} (hd:kdD d=some kd) {k:Value} {kp:PV} (rk:PRel M k kp) (hk:kdOf kp=some kd) (nv:PV):∀(es:List MapEntry) (xs:List (PV×PV)) (i:Nat),entriesRel M es xs→(∀x∈xs,kdOf x.1=some kd)→
 (mfind kp xs=none∧Instr.findNow d k es i=some none∧mput kp nv xs=xs++[(kp,nv)])∨∃(j:Nat) (en:MapEntry) (x:PV×PV),Instr.findNow d k es i=some (some (i+j,en.val))∧es[j]?=some en∧xs[j]?=some x∧mfind kp xs=some x.2∧en.key=k∧mput kp nv xs=xs.set j (kp,nv)
 | [],xs,i,hr,_=>by
   have:xs=[]:=List.eq_nil_of_length_eq_zero (by simpa using hr.1.symm);subst this;exact .inl ⟨rfl,rfl,rfl⟩
 |en::es,[],i,hr,_=>by have:=hr.1;simp at this
 |en::es,x::xs,i,hr,hx=>by
  obtain⟨p1,p2⟩:=hr.2 0 en x rfl rfl;have hkx:=hx x (by simp);have ik:=isKey_of hd rk hk;have ie:=isKey_of hd p1 hkx;obtain⟨r,hr1,hr2⟩:=sameNow_of_keys ik ie;have hpv:=pvEq_iff rk p1 hk hkx;obtain⟨xk,xv⟩:=x;have htail:entriesRel M es xs:=⟨by have:=hr.1;simpa using this,fun j e' x' h1 h2=>hr.2 (j+1) e' x' (by simpa using h1) (by simpa using h2)⟩
  cases r with
  |true=>
   have hkk:=hr2.1 rfl;refine .inr ⟨0,en,(xk,xv),by simp[Instr.findNow,hr1],rfl,rfl,?_,hkk.symm,?_⟩
   ·simp[mfind,hpv.2 hkk]
   ·simp[mput,hpv.2 hkk]
  |false=>
   have hne:pvEq kp xk=false:=by
    cases hq:pvEq kp xk with
    |false=>rfl
    |true=>have:=hr2.2 (hpv.1 hq);cases this
   rcases find_rel hd rk hk nv es xs (i+1) htail (fun x hx'=>hx x (by simp[hx'])) with⟨q1,q2,q3⟩|⟨j,e',x',q1,q2,q3,q4,q5,q6⟩
   ·exact .inl ⟨by simp[mfind,hne,q1],by simp[Instr.findNow,hr1,q2],by simp[mput,hne,q3]⟩
   ·exact .inr ⟨j+1,e',x',by simp[Instr.findNow,hr1,q1];omega,by simpa using q2,by simpa using q3,by simp[mfind,hne,q4],q5,by simp[mput,hne,q6]⟩
theorem zeroPV_spec (hty:TyOK P ty) {t:Nat} {i:TI} (hi:ty t=some i) {z:PV} (hz:zeroPV i=some z) (M:Mm) (w:World):∃v,(zeroValue t).run P w=.ok v w∧PRel M v z∧(isAggD i.desc=false→i.zero=[v]∨i.size≠1):=by
 obtain⟨inf,zv,h1,h2,h3,h4,h5,h6⟩:=(hty t i hi).inf;have one:=(hty t i hi).one
 let g:Gh:=⟨fun _=>0,fun _=>none,fun _=>0,fun _ _=>none,fun _=>none⟩
 have lift:∀{v:Value} {x:PV},PRel (imm g w) v x→PRel M v x:=fun r=>r.mono (fun b o' v' hv=>by simp[imm,g]at hv) (fun _ _ _ hv=>by simp[imm,g]at hv);have hrun:(zeroValue t).run P w=.ok zv w:=by simp[zeroValue,typeInfo,h1,h4]
 refine⟨zv,hrun,?_,?_⟩
 ·unfold zeroPV at hz
  split at hz
  ·rename_i hag
   split at hz
   ·rename_i l hl
    cases hz;obtain⟨k1,k2⟩:=allPure_spec (g:=g) (w:=w) (dom:=fun _=>False) _ _ _ hl
    have hagg:∃cs,zv=.agg cs:=by
     have hinf:=(hty t i hi).agz hag;obtain⟨inf',zv',e1,e2,e3⟩:=hinf;rw[h1]at e1;cases e1;rw[h4]at e2;cases e2;exact e3
    obtain⟨cs,rfl⟩:=hagg;simp only[Value.cells]at h5;have:=PRel.agg (M:=M) cs.toList l (by rw[k1,constAVs_length,h5]) (fun v hv=>one v (by rw[←h5];exact hv)) (fun j v x hv hx=>lift (k2 j v none (constAV v) x (by rw[constAVs_get,←h5,hv];rfl) hx (constAV_rel v)));simpa using this
   ·cases hz
  ·rename_i hag
   split at hz
   ·rename_i v r hzz
    have hzv:zv=v:=by
     obtain⟨inf',zv',e1,e2,e3⟩:=(hty t i hi).noz hag;rw[h1]at e1;cases e1;rw[h4]at e2;cases e2;rw[e3]at h5;rw[hzz]at h5;simp at h5;exact h5.1
    rw[hzv];exact lift (pure?_rel (constAV_rel (g:=g) (w:=w) (dom:=fun _=>False) (ow:=none) v) hz)
   ·cases hz
 ·intro hag
  obtain⟨inf',zv',e1,e2,e3⟩:=(hty t i hi).noz hag;rw[h1]at e1;cases e1;rw[h4]at e2;cases e2;rw[e3]at h5;exact .inl (by rw[←h5])
def World.setMap (w:World) (b:Nat) (es:Array MapEntry) (c:Nat):World:={ w with heap:=w.heap.setIfInBounds b (.map es c) }
theorem setMap_other {w:World} {b:Nat} {es:Array MapEntry} {c b':Nat} (h:b'≠b):(World.setMap w b es c).heap[b']?=w.heap[b']?:=by
 simp[World.setMap,Ne.symm h]
theorem setMap_self {w:World} {b:Nat} {es es':Array MapEntry} {c c':Nat} (hb:w.heap[b]?=some (.map es' c')):(World.setMap w b es c).heap[b]?=some (.map es c):=by
 have hlt:b<w.heap.size:=(Array.getElem?_eq_some_iff.1 hb).1;simp[World.setMap,hlt]
theorem setMap_size {w:World} {b:Nat} {es:Array MapEntry} {c:Nat}:(World.setMap w b es c).heap.size=w.heap.size:=by simp[World.setMap]
theorem imm_setMap {g:Gh} {w:World} {b:Nat} {es es':Array MapEntry} {c c':Nat} (hb:w.heap[b]?=some (.map es' c')) {b1 o1:Nat} {v:Value} (hv:imm g w b1 o1=some v):imm g (World.setMap w b es c) b1 o1=some v:=by
 have hne:b1≠b:=by
  intro q;subst q;have:=imm_cell hv;simp[World.cell?,hb]at this
 simp only[imm_eq]at hv ⊢;simp only[World.cell?,setMap_other hne]at hv ⊢;exact hv
theorem frozen_setMap {w:World} {b:Nat} {es es':Array MapEntry} {c c':Nat} (hb:w.heap[b]?=some (.map es' c')) (a:Addr):(World.setMap w b es c).frozen? a=w.frozen? a:=by
 by_cases q:a.block=b
 ·subst q;simp[World.frozen?,setMap_self hb,hb]
 ·simp[World.frozen?,setMap_other q]
end
end Go.AM
