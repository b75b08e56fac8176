/- Part of a machine over plain values. No conditions. -/
import Derived.Test.YtldppkdekklpkaaGreatDoorAMLem
import Derived.Laws.StructEq
import Derived.ChangeKeysEq
set_option linter.all false
section
namespace Go.AM
def World.push (w:World) (o:Obj):World:={ w with heap:=w.heap.push o }
theorem push_old {w:World} {o:Obj} {b:Nat} (h:b<w.heap.size):(World.push w o).heap[b]?=w.heap[b]?:=by
 show(w.heap.push o)[b]?=_;rw[Array.getElem?_push,if_neg (Nat.ne_of_lt h)]
theorem push_new {w:World} {o:Obj}:(World.push w o).heap[w.heap.size]?=some o:=by
 show(w.heap.push o)[w.heap.size]?=_;rw[Array.getElem?_push,if_pos rfl]
theorem push_size {w:World} {o:Obj}:(World.push w o).heap.size=w.heap.size+1:=by
 show(w.heap.push o).size=_;rw[Array.size_push]
theorem cell?_push_old {w:World} {o:Obj} {b i:Nat} (h:b<w.heap.size):(World.push w o).cell? ⟨b,i,none⟩=w.cell? ⟨b,i,none⟩:=by
 simp only[World.cell?,push_old h]
theorem cell?_lt {w:World} {b i:Nat} {v:Value} (h:w.cell? ⟨b,i,none⟩=some v):b<w.heap.size:=by
 rcases Nat.lt_or_ge b w.heap.size with h1|h1
 ·exact h1
 ·simp[World.cell?,Array.getElem?_eq_none h1]at h
def Gh.new (g:Gh) (B p:Nat) (o:Option Owner):Gh:=
 { pre:=fun b=>if b=B then p else g.pre b,own:=fun b=>if b=B then o else g.own b,ρ:=g.ρ,σ:=g.σ,sown:=g.sown }
def Gh.newObj (g:Gh) (B l:Nat):Gh:=
 { pre:=fun b=>if b=B then 0 else g.pre b,own:=fun b=>if b=B then some (.obj l) else g.own b,ρ:=fun k=>if k=l then B else g.ρ k,σ:=g.σ,sown:=g.sown }
theorem imm_lt {g:Gh} {w:World} {b o:Nat} {v:Value} (h:imm g w b o=some v):b<w.heap.size:=by
 simp only[imm_eq]at h;split at h
 ·exact cell?_lt h
 ·cases h
theorem imm_push {g g':Gh} {w:World} {ob:Obj} (hp:∀b,b<w.heap.size→g'.pre b=g.pre b) {b o:Nat} {v:Value} (h:imm g w b o=some v):imm g' (World.push w ob) b o=some v:=by
 have hb:=imm_lt h;simp only[imm_eq]at h ⊢;rw[hp b hb,cell?_push_old hb];exact h
theorem get_lt {w:World} {b:Nat} {x:Obj} (h:w.heap[b]?=some x):b<w.heap.size:=(Array.getElem?_eq_some_iff.1 h).1
theorem VRel.push {g g':Gh} {w:World} {ob:Obj} {dom dom':Nat→Prop} (hp:∀b,b<w.heap.size→g'.pre b=g.pre b∧g'.own b=g.own b)
 (hd:∀l,dom l→dom' l∧g'.ρ l=g.ρ l) (hbn:∀b o,g.own b=some o→b<w.heap.size)
 {ow:Option Owner} {v:Value} {x:AV} (r:VRel g w dom ow v x) (hsg:g'.σ=g.σ∧g'.sown=g.sown:=by exact⟨rfl,rfl⟩):VRel g' (World.push w ob) dom' ow v x:=
 r.keep (fun _ _ _ h=>imm_push (fun b hb=>(hp b hb).1) h) hd (fun l cs E h1 hb=>⟨cs,E,by rw[push_old (get_lt hb)];exact hb,rfl⟩)
  (fun o b _ ho=>by have:=hbn b o ho;exact⟨(hp b this).2.trans ho,(hp b this).1,push_old this⟩) (hsg:=fun s k a q=>by rw[hsg.1];exact q)
theorem PRel.push {g g':Gh} {w:World} {ob:Obj} (hp:∀b,b<w.heap.size→g'.pre b=g.pre b) {v:Value} {x:PV} (r:PRel (imm g w) v x) (hsg:g'.σ=g.σ:=by exact rfl):PRel (imm g' (World.push w ob)) v x:=
 r.mono (fun _ _ _ h=>imm_push hp h) (fun s k a q=>by show g'.σ s k=some a;rw[hsg];exact q)
theorem ORel.push {g g':Gh} {w:World} {ob:Obj} {dom dom':Nat→Prop} (hp:∀b,b<w.heap.size→g'.pre b=g.pre b∧g'.own b=g.own b)
 (hd:∀l,dom l→dom' l∧g'.ρ l=g.ρ l) (hbn:∀b o,g.own b=some o→b<w.heap.size)
 {l:Nat} (hdl:dom l) {o:AObj} (r:ORel g w dom l o) (hsg:g'.σ=g.σ∧g'.sown=g.sown:=by exact⟨rfl,rfl⟩):ORel g' (World.push w ob) dom' l o:=by
 have e:∀{x:Obj},w.heap[g.ρ l]?=some x→(World.push w ob).heap[g'.ρ l]?=some x:=fun h=>by rw[(hd l hdl).2,push_old (get_lt h)];exact h
 cases r with
 |cells cs vs E hb hlen hx h1=>exact .cells cs vs E (e hb) hlen (fun j v c a b=>(hx j v c a b).push hp hd hbn hsg) h1
 |arr xs vs E hb hlen hx h1=>exact .arr xs vs E (e hb) hlen (fun j v c a b=>(hx j v c a b).push (fun b hb=>(hp b hb).1) hsg.1) h1
 |map kd xs es clock hb hx hc=>
  exact .map kd xs es clock (e hb) ⟨hx.1,fun j a b h1 h2=>⟨(hx.2 j a b h1 h2).1.push (fun b hb=>(hp b hb).1) hsg.1,(hx.2 j a b h1 h2).2.push (fun b hb=>(hp b hb).1) hsg.1⟩⟩ hc
 |gr st sz xs hg=>exact .gr st sz xs fun q=>(hg q).mono (fun _ _ _ h=>imm_push (fun b hb=>(hp b hb).1) h) (fun _ _ h=>e h) (fun s k a q=>by rw[hsg.1];exact q)
 |dead=>exact .dead
 |glob gb gvs hgl=>exact ORel.globM hgl (fun h1 hlt _=>⟨push_old hlt,((hp gb hlt).2).trans h1⟩)
 |bld T E bs hbl=>
  have hlt:g.ρ l<w.heap.size:=by obtain⟨_,_,hb,_⟩:=hbl;exact get_lt hb
  exact ORel.bldM hbl (hd l hdl).2 (push_old hlt) (fun bb hbb=>⟨((hp bb (hbn bb _ hbb)).2).trans hbb,push_old (hbn bb _ hbb),(hp bb (hbn bb _ hbb)).1⟩)
 |store T3 o3 sp3 nx3 z3 M3 hst=>exact .store T3 o3 sp3 nx3 z3 M3 (hst.mono (fun _ _ _ h=>imm_push (fun b hb=>(hp b hb).1) h) (fun bb hbb=>⟨((hp bb (hbn bb _ hbb)).2).trans hbb,push_old (hbn bb _ hbb),(hp bb (hbn bb _ hbb)).1⟩) (by rw[hsg.2];exact hst.sown) (fun s k a q=>by rw[hsg.1];exact q) (fun k=>by rw[hsg.1]))
theorem Sim.pushOwn {g:Gh} {w:World} {n:Nat} {a:Act} {e:Env} {h:Heap} (s:Sim g w n a e h) (ob:Obj) (p:Nat) (o:Option Owner):
 Sim (g.new w.heap.size p o) (World.push w ob) n a e h:=by
 have hp:∀b,b<w.heap.size→(g.new w.heap.size p o).pre b=g.pre b∧(g.new w.heap.size p o).own b=g.own b:=fun b hb=>by simp[Gh.new,Nat.ne_of_lt hb]
 have hd:∀l,domOf h l→domOf h l∧(g.new w.heap.size p o).ρ l=g.ρ l:=fun l hl=>⟨hl,rfl⟩
 refine⟨s.defers,s.size,fun i=>(s.env i).push hp hd s.bnd,⟨fun l x hx=>?_,fun l x hx hq=>?_,fun l x hx hq=>?_⟩,fun b x hx=>?_⟩
 ·have hdl:domOf h l:=by simp[domOf,hx]
  exact(s.heap.obj l x hx).push hp hd s.bnd hdl
 ·have this:=s.heap.own l x hx hq
  show(g.new w.heap.size p o).own (g.ρ l)=_;rw[(hp _ (s.bnd _ _ this)).2];exact this
 ·have this:=s.heap.own l x hx hq
  show(g.new w.heap.size p o).pre (g.ρ l)=_;rw[(hp _ (s.bnd _ _ this)).1];exact s.heap.pre l x hx hq
 ·rw[push_size]
  by_cases hb:b=w.heap.size
  ·omega
  ·have:(g.new w.heap.size p o).own b=g.own b:=by simp[Gh.new,hb]
   rw[this]at hx;have:=s.bnd b x hx;omega
theorem frozen_push {w:World} {cs:Array Value} {E:TypeId} (a:Addr):(World.push w (.cells cs E (0,0))).frozen? a=w.frozen? a:=by
 by_cases h:a.block=w.heap.size
 ·simp[World.frozen?,h,push_new]
 ·have:(World.push w (.cells cs E (0,0))).heap[a.block]?=w.heap[a.block]?:=by
   rcases Nat.lt_or_gt_of_ne h with h1|h1
   ·exact push_old h1
   ·rw[Array.getElem?_eq_none (by rw[push_size];omega),Array.getElem?_eq_none (by omega)]
  simp[World.frozen?,this]
theorem frozen_push_map {w:World} {es:Array MapEntry} {c:Nat} (a:Addr):(World.push w (.map es c)).frozen? a=w.frozen? a:=by
 by_cases h:a.block=w.heap.size
 ·simp[World.frozen?,h,push_new]
 ·have:(World.push w (.map es c)).heap[a.block]?=w.heap[a.block]?:=by
   rcases Nat.lt_or_gt_of_ne h with h1|h1
   ·exact push_old h1
   ·rw[Array.getElem?_eq_none (by rw[push_size];omega),Array.getElem?_eq_none (by omega)]
  simp[World.frozen?,this]
theorem Ext.push {g g':Gh} {w:World} {ob:Obj} (hp:∀b,b<w.heap.size→g'.pre b=g.pre b∧g'.own b=g.own b) (hf:∀a,(World.push w ob).frozen? a=w.frozen? a) (hρ:∀l,bigId≤l→g'.ρ l=g.ρ l) (hsg:g'.σ=g.σ∧g'.sown=g.sown:=by exact⟨rfl,rfl⟩):Ext g w g' (World.push w ob):=
 ⟨by rw[push_size];omega,rfl,rfl,fun _ _ _ h=>imm_push (fun b hb=>(hp b hb).1) h,
   fun b hb ho=>⟨push_old hb,(hp b hb).1,(hp b hb).2.trans ho⟩,SgLe.of hsg.1 hsg.2,fun a _=>hf a,hρ,fun b cs E hb=>⟨cs,E,by rw[push_old (Array.getElem?_eq_some_iff.1 hb).1];exact hb,rfl⟩⟩
theorem newObj_ρ {g:Gh} {B d:Nat} (hd:d<bigId) (l:Nat) (hl:bigId≤l):(g.newObj B d).ρ l=g.ρ l:=by
 have:l≠d:=by omega
 simp[Gh.newObj,this]
theorem freshId_spec {h:Heap} {d:Nat} (hf:freshId h d=true):hget h d=none∧d<bigId:=by
 unfold freshId at hf;split at hf
 ·rename_i hn;exact⟨hn,by rw[Nat.blt_eq]at hf;exact hf⟩
 ·cases hf
theorem Sim.pushObj {g:Gh} {w:World} {n:Nat} {a:Act} {e:Env} {h:Heap} (s:Sim g w n a e h) {d:Nat} (hd0:hget h d=none) (ob:Obj) (x:AObj)
 (hx:∀dom',(∀l,domOf h l→dom' l)→(∀{ow v y},VRel g w (domOf h) ow v y→VRel (g.newObj w.heap.size d) (World.push w ob) dom' ow v y)→ORel (g.newObj w.heap.size d) (World.push w ob) dom' d x):
 Sim (g.newObj w.heap.size d) (World.push w ob) n a e ((d,x)::h):=by
 have hne:∀l,domOf h l→l≠d:=fun l hl he=>by subst he;simp[domOf,hd0]at hl
 have hp:∀b,b<w.heap.size→(g.newObj w.heap.size d).pre b=g.pre b∧(g.newObj w.heap.size d).own b=g.own b:=fun b hb=>by simp[Gh.newObj,Nat.ne_of_lt hb]
 have hdm:∀l,domOf h l→domOf ((d,x)::h) l:=fun l hl=>by
  unfold domOf at hl ⊢;rw[hget_ne (fun e=>hne l hl e.symm)];exact hl
 have hd:∀l,domOf h l→domOf ((d,x)::h) l∧(g.newObj w.heap.size d).ρ l=g.ρ l:=fun l hl=>⟨hdm l hl,by simp[Gh.newObj,hne l hl]⟩
 refine⟨s.defers,s.size,fun i=>(s.env i).push hp hd s.bnd,⟨fun l y hy=>?_,fun l y hy hq=>?_,fun l y hy hq=>?_⟩,fun b y hy=>?_⟩
 ·by_cases e:d=l
  ·subst e
   rw[hget_self]at hy;cases hy;exact hx _ hdm (fun r=>r.push hp hd s.bnd)
  ·rw[hget_ne e]at hy
   have hdl:domOf h l:=by simp[domOf,hy]
   exact(s.heap.obj l y hy).push hp hd s.bnd hdl
 ·by_cases e:d=l
  ·subst e;simp[Gh.newObj]
  ·rw[hget_ne e]at hy
   have hdl:domOf h l:=by simp[domOf,hy]
   have this:=s.heap.own l y hy hq;rw[(hd l hdl).2,(hp _ (s.bnd _ _ this)).2];exact this
 ·by_cases e:d=l
  ·subst e;simp[Gh.newObj]
  ·rw[hget_ne e]at hy
   have hdl:domOf h l:=by simp[domOf,hy]
   have this:=s.heap.own l y hy hq;rw[(hd l hdl).2,(hp _ (s.bnd _ _ this)).1];exact s.heap.pre l y hy hq
 ·rw[push_size]
  by_cases hb:b=w.heap.size
  ·omega
  ·have:(g.newObj w.heap.size d).own b=g.own b:=by simp[Gh.newObj,hb]
   rw[this]at hy;have:=s.bnd b y hy;omega
def Gh.relabel (g:Gh) (b:Nat) (o:Owner):Gh:={ g with own:=fun b'=>if b'=b then some o else g.own b' }
theorem VRel.relabel {g:Gh} {w:World} {dom:Nat→Prop} {b:Nat} {o o':Owner} (hb:g.own b=some o) {ow:Option Owner} (hne:ow≠some o) {v:Value} {x:AV} (r:VRel g w dom ow v x):
 VRel (g.relabel b o') w dom ow v x:=
 VRel.keep (g:=g) (g':=g.relabel b o') (w:=w) (w':=w) (fun _ _ _ h=>h) (fun l hl=>⟨hl,rfl⟩) (fun l cs E _ h=>⟨cs,E,h,rfl⟩) (fun o1 b1 e1 h1=>by
  have:b1≠b:=fun e=>by subst e;rw[hb]at h1;cases h1;exact hne e1
  exact⟨by simp[Gh.relabel,this,h1],rfl,rfl⟩) r
theorem Ext.relabel {g:Gh} {w:World} {b:Nat} {o o':Owner} (hb:g.own b=some o):Ext g w (g.relabel b o') w:=
 ⟨Nat.le_refl _,rfl,rfl,fun _ _ _ h=>h,fun b1 _ ho=>⟨rfl,rfl,by
   have:b1≠b:=fun e=>by subst e;rw[hb]at ho;cases ho
   simp[Gh.relabel,this,ho]⟩,SgLe.of rfl rfl,fun _ _=>rfl,fun _ _=>rfl,fun b cs E hb=>⟨cs,E,hb,rfl⟩⟩
theorem HRel.relabel {g:Gh} {w:World} {h:Heap} (r:HRel g w h) {b t:Nat} {o':Owner} (hb:g.own b=some (.slot t)):HRel (g.relabel b o') w h:=by
 have hne:∀l x,hget h l=some x→x.solid=true→g.ρ l≠b:=fun l x hx hq e=>by have:=r.own l x hx hq;rw[e,hb]at this;cases this
 refine⟨fun l x hx=>?_,fun l x hx hq=>?_,fun l x hx hq=>r.pre l x hx hq⟩
 ·cases r.obj l x hx with
  |cells cs vs E hb' hl hx' h1=>exact .cells cs vs E hb' hl (fun j v c a b=>(hx' j v c a b).relabel hb (by simp)) h1
  |arr xs vs E hb' hl hx' h1=>exact .arr xs vs E hb' hl hx' h1
  |map kd xs es clock hb' hx' hc=>exact .map kd xs es clock hb' hx' hc
  |gr st sz xs hg=>exact .gr st sz xs hg
  |dead=>exact .dead
  |glob gb gvs hgl=>exact ORel.globM hgl (fun h1 _ _=>⟨rfl,by have hne:gb≠b:=(fun e=>by subst e;rw[hb]at h1;cases h1);simp[Gh.relabel,hne,h1]⟩)
  |bld T E bs hbl=>exact ORel.bldM hbl rfl rfl (fun bb hbb=>⟨by have hne:bb≠b:=(fun e=>by subst e;rw[hb]at hbb;cases hbb);simp[Gh.relabel,hne,hbb],rfl,rfl⟩)
  |store T3 o3 sp3 nx3 z3 M3 hst=>exact .store T3 o3 sp3 nx3 z3 M3 (hst.mono (fun _ _ _ q=>q) (fun bb hbb=>⟨by have hne:bb≠b:=(fun e=>by subst e;rw[hb]at hbb;cases hbb);simp[Gh.relabel,hne,hbb],rfl,rfl⟩) hst.sown)
 ·have:=r.own l x hx hq
  show(g.relabel b o').own (g.ρ l)=_;simp[Gh.relabel,hne l x hx hq,this]
end Go.AM
end
section
namespace Go.AM
section
variable {P:Program}
theorem kdT_spec {t:Nat} {k:KD} (h:kdT P t=some k):∃d i,P.underlying t=some d∧P.info? t=some i∧kdD d=some k:=by
 unfold kdT at h;split at h<;>(try (cases h;done))
 all_goals (rename_i i h1 h2;cases h;exact⟨_,i,h1,h2,rfl⟩)
theorem run_part_flat {t:Nat} {k:KD} (h:kdT P t=some k) {cs:Array Value} {off:Nat} {v:Value} (hv:cs[off]?=some v) (w:World):(part t cs off).run P w=.ok v w:=by
 obtain⟨d,i,h1,h2,h3⟩:=kdT_spec h
 have:(isAgg t).run P w=.ok false w:=by
  simp only[isAgg,Sem.run_bind,run_underlying h1,Result.andThen_ok]
  cases d<;>simp[kdD]at h3<;>rfl
 simp only[part,Sem.run_bind,this,Result.andThen_ok,hv];rfl
theorem run_flat1 {M:Mm} {t:Nat} {k:KD} (h:kdT P t=some k) {v u:Value} {x y:PV} {q:Bool} (r1:PRel M v x) (r2:PRel M u y) (hq:flatEq1 k x y=some q) (d:Nat) (w:World):
 (Op.equalIn (d+1) t v u).run P w=.ok q w:=by
 obtain⟨de,i,h1,h2,h3⟩:=kdT_spec h;unfold flatEq1 at hq;split at hq
 ·rename_i k0 k1 a k2 b
  split at hq
  ·rename_i hk
   have hk:=of_decide_eq_true hk;subst hk;cases hq
   cases r1;cases r2
   cases de<;>simp[kdD]at h3
   exact run_equalIn_int w d t _ _ a b h1
  ·cases hq
 ·cases hq;cases r1;cases r2
  cases de<;>simp[kdD]at h3
  exact run_equalIn_bool' w d t _ _ h1
 ·cases hq;cases r1;cases r2
  cases de<;>simp[kdD]at h3
  exact run_equalIn_string w d t _ _ h1
 ·cases hq
theorem run_eqFields_flat {M:Mm} (d:Nat) (w:World) (vs us:Array Value):∀(fs:List Field) (ks:List KD) (n:Nat) (xs ys:List PV) (q:Bool),flatFields P n fs ks=true→flatEq ks xs ys=some q→
 (∀(j:Nat) (x:PV),xs[j]?=some x→∃v,vs[n+j]?=some v∧PRel M v x)→(∀(j:Nat) (y:PV),ys[j]?=some y→∃v,us[n+j]?=some v∧PRel M v y)→
 (Op.eqFields (d+1) vs us fs).run P w=.ok q w
 | [],[],n,xs,ys,q,_,hq,_,_=>by
   cases xs<;>cases ys<;>simp[flatEq]at hq
   subst hq;simp[Op.eqFields]
 |f::fs,k::ks,n,xs,ys,q,hf,hq,h1,h2=>by
  cases xs with
  |nil=>simp[flatEq]at hq
  |cons x xs=>
   cases ys with
   |nil=>simp[flatEq]at hq
   |cons y ys=>
    simp only[flatFields,Bool.and_eq_true,bne_iff_ne,ne_eq,beq_iff_eq]at hf;obtain⟨⟨⟨⟨f1,f2⟩,f3⟩,f4⟩,f5⟩:=hf;have f1:=Nat.eq_of_beq_eq_true f1;simp only[flatEq]at hq;split at hq
    ·rename_i q1 hq1
     split at hq
     ·rename_i q2 hq2
      cases hq;obtain⟨v,hv,rv⟩:=h1 0 x rfl;obtain⟨u,hu,ru⟩:=h2 0 y rfl;have ih:=run_eqFields_flat d w vs us fs ks (n+1) xs ys q2 f5 hq2 (fun j x hx=>by have:=h1 (j+1) x (by simpa using hx);rwa [show n+(j+1)=n+1+j by omega]at this) (fun j x hx=>by have:=h2 (j+1) x (by simpa using hx);rwa [show n+(j+1)=n+1+j by omega]at this);have p1:=run_part_flat f3 (cs:=vs) (off:=f.offset) (v:=v) (by rw[f1];simpa using hv) w;have p2:=run_part_flat f3 (cs:=us) (off:=f.offset) (v:=u) (by rw[f1];simpa using hu) w;have p3:=run_flat1 f3 rv ru hq1 d w;simp only[Op.eqFields,f2,ne_eq,not_false_iff,if_true,Sem.run_bind,p1,p2,p3,Result.andThen_ok];cases q1
      ·simp
      ·simpa using ih
     ·cases hq
    ·cases hq
 | [],_::_,_,_,_,_,hf,_,_,_=>by simp[flatFields]at hf
 |_::_,[],_,_,_,_,hf,_,_,_=>by simp[flatFields]at hf
theorem run_eqItems_flat {M:Mm} (d:Nat) (w:World) (el:Nat) (vs us:Array Value):∀(m n:Nat) (ks:List KD) (xs ys:List PV) (q:Bool),ks.length=m→(∀k∈ks,kdT P el=some k)→flatEq ks xs ys=some q→
 (∀(j:Nat) (x:PV),xs[j]?=some x→∃v,vs[n+j]?=some v∧PRel M v x)→(∀(j:Nat) (y:PV),ys[j]?=some y→∃v,us[n+j]?=some v∧PRel M v y)→
 (Op.eqItems (d+1) el 1 vs us (List.range' n m)).run P w=.ok q w
 |0,n,ks,xs,ys,q,hl,_,hq,_,_=>by
  cases ks with
  |cons k ks=>simp at hl
  |nil=>cases xs<;>cases ys<;>simp[flatEq]at hq;subst hq;simp[Op.eqItems]
 |m+1,n,ks,xs,ys,q,hl,hk,hq,h1,h2=>by
  cases ks with
  |nil=>simp at hl
  |cons k ks=>
   cases xs with
   |nil=>simp[flatEq]at hq
   |cons x xs=>
    cases ys with
    |nil=>simp[flatEq]at hq
    |cons y ys=>
     simp only[flatEq]at hq;split at hq
     ·rename_i q1 hq1
      split at hq
      ·rename_i q2 hq2
       cases hq;obtain⟨v,hv,rv⟩:=h1 0 x rfl;obtain⟨u,hu,ru⟩:=h2 0 y rfl;have ih:=run_eqItems_flat d w el vs us m (n+1) ks xs ys q2 (by simpa using hl) (fun k hk'=>hk k (by simp[hk'])) hq2 (fun j x hx=>by have:=h1 (j+1) x (by simpa using hx);rwa [show n+(j+1)=n+1+j by omega]at this) (fun j x hx=>by have:=h2 (j+1) x (by simpa using hx);rwa [show n+(j+1)=n+1+j by omega]at this);have f3:=hk k (by simp);have p1:=run_part_flat f3 (cs:=vs) (off:=n*1) (v:=v) (by simpa using hv) w;have p2:=run_part_flat f3 (cs:=us) (off:=n*1) (v:=u) (by simpa using hu) w;have p3:=run_flat1 f3 rv ru hq1 d w;simp only[List.range'_succ,Op.eqItems,Sem.run_bind,p1,p2,p3,Result.andThen_ok];cases q1
       ·simp
       ·simpa using ih
      ·cases hq
     ·cases hq
theorem run_equal_flat {M:Mm} {t:Nat} {ks:List KD} (hne:ks≠[]) (h:eqOK P t ks=true) {vs us:List Value} {xs ys:List PV} (r1:PRel M (.agg vs.toArray) (.agg xs)) (r2:PRel M (.agg us.toArray) (.agg ys)) {q:Bool} (hq:flatEq ks xs ys=some q) (w:World):
 (Op.equalIn 10000 t (.agg vs.toArray) (.agg us.toArray)).run P w=.ok q w∧P.eqGuardType P.depth t=false:=by
 have key:∀{vs:List Value} {xs:List PV},PRel M (.agg vs.toArray) (.agg xs)→∀(j:Nat) (x:PV),xs[j]?=some x→∃v,vs.toArray[0+j]?=some v∧PRel M v x:=by
  intro vs xs r j x hx;generalize hv:Value.agg vs.toArray=v0 at r
  cases r with
  |agg vs' _ hl _ hxx=>
   simp only[Value.agg.injEq]at hv;have hv:vs=vs':=by simpa using congrArg Array.toList hv
   subst hv;have hj:j<vs.length:=by rw[hl];exact(List.getElem?_eq_some_iff.1 hx).1
   exact⟨vs[j],by simp[hj],hxx j vs[j] x (by simp[hj]) hx⟩
 unfold eqOK at h;simp only[Bool.and_eq_true,Bool.not_eq_true']at h;obtain⟨hg,h⟩:=h;refine⟨?_,hg⟩;split at h
 ·rename_i fs hu
  simp only[Bool.and_eq_true,Bool.not_eq_true']at h;obtain⟨h1,h2⟩:=h;have hfs:P.fieldsOf t=fs:=by simp[Program.fieldsOf,hu]
  rw[run_equalIn_struct w 9999 t _ _ (by rw[hfs];exact hu) h1,hfs];exact run_eqFields_flat 9998 w _ _ fs.toList ks 0 xs ys q h2 hq (key r1) (key r2)
 ·rename_i m el hu
  simp only[Bool.and_eq_true,List.all_eq_true,beq_iff_eq]at h;obtain⟨⟨h1,h2⟩,h3⟩:=h;have h1:=Nat.eq_of_beq_eq_true h1;have h2:=Nat.eq_of_beq_eq_true h2
  cases ks with
  |nil=>exact absurd rfl hne
  |cons k ks=>
   obtain⟨de,i,q1,q2,q3⟩:=kdT_spec (h3 k (by simp));rw[run_equalIn_array w 9999 _ _ hu q2,h1,List.range_eq_range'];exact run_eqItems_flat 9998 w el _ _ m 0 (k::ks) xs ys q h2 h3 hq (key r1) (key r2)
 ·cases h
end
end Go.AM
end
section
namespace Go.AM
section
variable {P:Program} {ty:Nat→Option TI} {n:Nat} {o:Oper} {e:Env} {h:Heap} {K:AK}
theorem aMove_sound (hd:∀d,o.dst=some d→d<n) {t:Nat} (ho:o.op=.move (.tmp t)∨o.op=.assign (.tmp t)) {mv:Nat→Bool} (hk:aMove o e t mv K):∃f,K f∧OpOK P n o e h f:=by
 have hrun:∀(a:Act) (w:World),(execOp a.eval o).run P w=.ok (.value (a.eval (.tmp t))) w:=by
  intro a w;rcases ho with ho|ho<;>simp[execOp,ho]
 have hsl:t∈slotsOf o:=by rcases ho with ho|ho<;>simp[slotsOf,ho,Op.operands]
 unfold aMove at hk;split at hk
 ·rename_i sz xs hso
  split at hk
  ·rename_i d hdd
   split at hk
   · -- with the right
    refine⟨_,hk,fun e' h' he _ g w a s=>Oper.wp_value (hrun a w) ?_⟩;have hv:=s.env t;rw[he t hsl,hso]at hv;generalize hval:a.tmps.getD t undef=v at hv;have hval':a.eval (.tmp t)=v:=hval;simp only[hval',hdd,List.reverse_cons,List.reverse_nil,List.nil_append,List.cons_append];have hpure:VRel g w (domOf h') none v (.p (.sl sz xs)):=hv.copy (ow':=none)
    cases hv with
    |full _ ad _ _ hz hp=>
     refine⟨g,?_,Ext.refl _ _⟩;have s1:=s.put (hd d hdd) (VRel.full (some (.slot d)) ad sz xs hz hp);refine⟨s1.defers,s1.size,fun i=>?_,s1.heap,s1.bnd⟩
     by_cases hi:t=i
     ·subst hi;rw[eget_self]
      have:=s1.env t
      by_cases hdt:d=t
      ·subst hdt;rw[eget_self]at this;exact this.copy
      ·rw[eget_ne hdt,he t hsl,hso]at this;exact this.copy
     ·rw[eget_ne hi];exact s1.env i
    |own _ ad cap _ _ cs E hz hp hw hpre hb hs=>
     refine⟨g.relabel ad.block (.slot d),?_,Ext.relabel hw⟩;refine⟨s.defers,by simp[Act.put,s.size],fun i=>?_,s.heap.relabel hw,fun b o' hb'=>?_⟩
     ·by_cases hi:t=i
      ·subst hi
       rw[eget_self]
       by_cases hdt:d=t
       ·subst hdt
        have:(a.put (some d) (.slice (some ad) xs.length cap)).tmps.getD d undef=.slice (some ad) xs.length cap:=by simp[Act.put,s.size,hd d hdd]
        rw[this];exact .p _ _ _ hp
       ·have:(a.put (some d) (.slice (some ad) xs.length cap)).tmps.getD t undef=.slice (some ad) xs.length cap:=by
         rw[←hval];simp[Act.put,Array.getD_eq_getD_getElem?,hdt]
        rw[this];exact .p _ _ _ hp
      ·rw[eget_ne hi]
       by_cases hdi:d=i
       ·subst hdi
        rw[eget_self];have:(a.put (some d) (.slice (some ad) xs.length cap)).tmps.getD d undef=.slice (some ad) xs.length cap:=by simp[Act.put,s.size,hd d hdd]
        rw[this];exact .own (.slot d) ad cap sz xs cs E hz hp (by simp[Gh.relabel]) hpre hb hs
       ·rw[eget_ne hdi]
        have:(a.put (some d) (.slice (some ad) xs.length cap)).tmps.getD i undef=a.tmps.getD i undef:=by simp[Act.put,Array.getD_eq_getD_getElem?,hdi]
        rw[this];exact(s.env i).relabel hw (by simp;exact fun e=>hi e.symm)
     ·by_cases hbb:b=ad.block
      ·subst hbb;exact s.bnd _ _ hw
      ·simp only[Gh.relabel,if_neg hbb]at hb';exact s.bnd _ _ hb'
   ·refine⟨_,hk,fun e' h' he _ g w a s=>Oper.wp_value (hrun a w) ⟨g,?_,Ext.refl _ _⟩⟩
    have hv:=s.env t;rw[he t hsl,hso]at hv;rw[hdd];exact s.put (hd d hdd) hv.copy
  ·exact hk.elim
 ·rename_i hns
  refine ret_sound hd hk fun e' h' he g w a s=>⟨_,hrun a w,fun d _=>?_⟩
  have:=s.env t;rw[he t hsl]at this;exact this.anyOwner (fun sz xs e=>hns sz xs e)
theorem operand_sound (hd:∀d,o.dst=some d→d<n) {x:Operand} (ho:o.op=.move x∨o.op=.assign x) (hx:∀t,x≠.tmp t) (hk:ret o (ev e x) K):∃f,K f∧OpOK P n o e h f:=by
 refine ret_sound hd hk fun e' h' he g w a s=>⟨a.eval x,by rcases ho with ho|ho<;>simp[execOp,ho],fun d _=>?_⟩
 have hm:x∈o.op.operands:=by rcases ho with ho|ho<;>simp[ho,Op.operands]
 obtain⟨ow,hr⟩:=s.ev x;rw[ev_congr he hm]at hr;refine hr.anyOwner fun sz xs e=>?_
 cases x with
 |tmp t=>exact hx t rfl
 |const v=>exact(constAV_so e).elim
 |func f=>simp[ev]at e
 |global b=>simp[ev]at e
theorem VRel.bool {g:Gh} {w:World} {dom:Nat→Prop} {ow:Option Owner} {v:Value} {x:Bool} (r:VRel g w dom ow v (.p (.b x))):v=.bool x:=by
 cases r with|p _ _ _ h=>cases h;rfl
theorem VRel.int {g:Gh} {w:World} {dom:Nat→Prop} {ow:Option Owner} {v:Value} {k:IntKind} {x:Int} (r:VRel g w dom ow v (.p (.i k x))):v=.int k x:=by
 cases r with|p _ _ _ h=>cases h;rfl
theorem VRel.str {g:Gh} {w:World} {dom:Nat→Prop} {ow:Option Owner} {v:Value} {x:ByteArray} (r:VRel g w dom ow v (.p (.s x))):v=.string x:=by
 cases r with|p _ _ _ h=>cases h;rfl
theorem Sim.evo {g:Gh} {w:World} {n:Nat} {a:Act} {e':Env} {h':Heap} (s:Sim g w n a e' h') (he:∀t∈slotsOf o,eget e' t=eget e t) {x:Operand} (hx:x∈o.op.operands) {y:AV} (hy:Go.AM.ev e x=y):
 ∃ow,VRel g w (domOf h') ow (a.eval x) y:=by
 obtain⟨ow,hr⟩:=s.ev x;rw[ev_congr he hx,hy]at hr;exact⟨ow,hr⟩
theorem aPick_sound (hd:∀d,o.dst=some d→d<n) {c x y:Operand} (ho:o.op=.pick c x y) {gd:Bool} (hc:ev e c=.p (.b gd)) (hk:ASplit gd (ret o (ev e x).copy K) (ret o (ev e y).copy K)):∃f,K f∧OpOK P n o e h f:=by
 have m1:c∈o.op.operands:=by simp[ho,Op.operands]
 have m2:x∈o.op.operands:=by simp[ho,Op.operands]
 have m3:y∈o.op.operands:=by simp[ho,Op.operands]
 cases gd with
 |true=>
  refine ret_sound hd hk fun e' h' he g w a s=>?_;obtain⟨_,r1⟩:=s.evo he m1 hc;obtain⟨_,r2⟩:=s.evo he m2 rfl;exact⟨a.eval x,by simp[execOp,ho,r1.bool,asBool],fun d _=>r2.copy⟩
 |false=>
  refine ret_sound hd hk fun e' h' he g w a s=>?_;obtain⟨_,r1⟩:=s.evo he m1 hc;obtain⟨_,r2⟩:=s.evo he m3 rfl;exact⟨a.eval y,by simp[execOp,ho,r1.bool,asBool],fun d _=>r2.copy⟩
theorem eqGuard_plain {op:BinOp} {t:TypeId} {x y:Operand} {v u:Value} {w:World} (h:(∀a,v≠.agg a)∧v≠.nilIface):(eqGuard op t x y v u).run P w=.ok () w:=by
 cases v with
 |agg a=>exact absurd rfl (h.1 a)
 |nilIface=>exact absurd rfl h.2
 |_=>cases op<;>rfl
theorem run_equalIn_bool (d:Nat) {t:TypeId} (h:P.underlying t=some .bool) (a b:Bool) (w:World):(Op.equalIn (d+1) t (.bool a) (.bool b)).run P w=.ok (a==b) w:=by
 simp only[Op.equalIn,Sem.run_bind,run_underlying h,Result.andThen_ok,Sem.run_pure]
theorem PRel.someAd {M:Mm} {a:Option Addr} {m c sz:Nat} {y:PV} {ys:List PV} (r:PRel M (.slice a m c) (.sl sz (y::ys))):a.isNone=false:=by
 generalize hv:Value.slice a m c=v at r;generalize hx:PV.sl sz (y::ys)=x at r
 cases r with
 |sl b cap sz' xs f=>cases hv;rfl
 |nil=>cases hx
 |_=>first|(cases hx;done)|(cases hv;done)
theorem nilEq_rel {g:Gh} {w:World} {dom:Nat→Prop} {ow:Option Owner} {v:Value} {x:AV} {b:Bool} (r:VRel g w dom ow v x) (h:nilEq x=some b):∃a n c,v=.slice a n c∧a.isNone=b:=by
 unfold nilEq at h;split at h
 ·cases h;cases r;exact⟨none,0,0,rfl,rfl⟩
 ·cases h;cases r with|es _ a cap sz hs=>exact⟨some a,0,cap,rfl,rfl⟩
 ·cases h
  cases r with
  |p _ _ _ hp=>cases hp with|sl a cap _ _ f=>exact⟨some a,_,cap,rfl,rfl⟩
 ·cases h
  cases r with
  |full _ a _ _ hz hp=>exact⟨a,_,_,rfl,hp.someAd⟩
  |own _ a cap _ _ cs E hz hp=>exact⟨some a,_,cap,rfl,rfl⟩
 ·cases h
  cases r with
  |al0=>exact⟨none,0,0,rfl,rfl⟩
  |al _ _ _ _ _ cap hd h0 hc hn=>
   refine⟨_,_,cap,rfl,?_⟩
   rename_i m
   rcases h0 with rfl|h0
   ·rfl
   ·have:Nat.beq m 0=false:=by cases m with|zero=>omega|succ m=>rfl
    rw[this];split<;>rfl
 ·cases h
theorem run_equalIn_nil (d:Nat) {t el:TypeId} (h:P.underlying t=some (.slice el)) (a:Option Addr) (n c:Nat) (w:World):(Op.equalIn (d+1) t (.slice a n c) (.slice none 0 0)).run P w=.ok a.isNone w:=by
 cases a<;>simp[Op.equalIn,run_underlying h]
theorem run_eq_nil (hty:TyOK P ty) {t:Nat} (ht:isSliceT ty t=true) {a:Option Addr} {n c:Nat} {w:World}:(Op.equal t (.slice a n c) (.slice none 0 0)).run P w=.ok a.isNone w:=by
 unfold isSliceT at ht;split at ht
 ·rename_i i hi
  split at ht
  ·rename_i el hde
   have hu:=(hty t i hi).und;rw[hde]at hu;exact run_equalIn_nil 9999 hu a n c w
  ·cases ht
 ·cases ht
theorem aBin_sound (hty:TyOK P ty) (hd:∀d,o.dst=some d→d<n) {op:BinOp} {t t':TypeId} {x y:Operand} (ho:o.op=.binOp op t x y t') (hk:aBin ty o op t (ev e x) (ev e y) K):∃f,K f∧OpOK P n o e h f:=by
 have m1:x∈o.op.operands:=by simp[ho,Op.operands]
 have m2:y∈o.op.operands:=by simp[ho,Op.operands]
 unfold aBin at hk;split at hk
 ·rename_i k a1 k' b1 hx hy
  split at hk
  · -- rem
   obtain⟨⟨rfl,hb⟩,hk⟩:=hk;refine ret_sound hd hk fun e' h' he g w a s=>?_;obtain⟨_,r1⟩:=s.evo he m1 hx;obtain⟨_,r2⟩:=s.evo he m2 hy;refine⟨.int k (a1.tmod b1),?_,fun d _=>.p _ _ _ (.i _ _)⟩;simp[execOp,ho,r1.int,r2.int,eqGuard_plain,binOp,Op.intDiv,hb]
  ·obtain⟨⟨rfl,hb⟩,hk⟩:=hk
   refine ret_sound hd hk fun e' h' he g w a s=>?_;obtain⟨_,r1⟩:=s.evo he m1 hx;obtain⟨_,r2⟩:=s.evo he m2 hy;refine⟨.int k (k.wrap (a1.tdiv b1)),?_,fun d _=>.p _ _ _ (.i _ _)⟩;simp[execOp,ho,r1.int,r2.int,eqGuard_plain,binOp,Op.intDiv,hb]
  ·rename_i op' hn1 hn2
   split at hk
   ·rename_i v hv
    split at hk
    ·rename_i hkk
     have hkk:k=k':=of_decide_eq_true hkk;subst hkk;refine ret_sound hd hk fun e' h' he g w a s=>?_;obtain⟨_,r1⟩:=s.evo he m1 hx;obtain⟨_,r2⟩:=s.evo he m2 hy
     cases op<;>simp only[binI,Option.some.injEq,reduceCtorEq]at hv<;>subst hv <;>
      first
      |(refine⟨.int k _,?_,fun d _=>.p _ _ _ (.i _ _)⟩
        simp[execOp,ho,r1.int,r2.int,eqGuard_plain,binOp,Op.intArith];done)
      |(refine⟨.int k _,?_,fun d _=>.p _ _ _ (.i _ _)⟩
        simp only[execOp,ho,r1.int,r2.int,Sem.run_bind,eqGuard_plain (v:=.int k a1) ⟨fun _=>by simp,by simp⟩,Result.andThen_ok,binOp,Op.intBits,bitI,ne_eq,not_true_eq_false,if_false,Sem.run_pure];done)
      |(refine⟨.bool _,?_,fun d _=>.p _ _ _ (.b _)⟩
        simp[execOp,ho,r1.int,r2.int,eqGuard_plain,binOp,Op.intCmp];done)
    ·exact hk.elim
   ·exact hk.elim
 ·rename_i a1 b1 hx hy
  split at hk
  ·obtain⟨hb,hk⟩:=hk
   refine ret_sound hd hk fun e' h' he g w a s=>?_;obtain⟨_,r1⟩:=s.evo he m1 hx;obtain⟨_,r2⟩:=s.evo he m2 hy;refine⟨.string (a1++b1),?_,fun d _=>.p _ _ _ (.s _)⟩
   have hno:¬((a1.size+b1.size:Nat):Int)>IntKind.i64.max:=by
    have:IntKind.i64.max=9223372036854775807:=by decide
    rw[this];omega
   simp only[execOp,ho,r1.str,r2.str,Sem.run_bind,eqGuard_plain (v:=.string a1) ⟨fun _=>by simp,by simp⟩,Result.andThen_ok,binOp,Op.stringOp,Sem.run_pure,if_neg hno]
  ·rename_i op' hn1
   split at hk
   ·rename_i v hv
    refine ret_sound hd hk fun e' h' he g w a s=>?_;obtain⟨_,r1⟩:=s.evo he m1 hx;obtain⟨_,r2⟩:=s.evo he m2 hy
    cases op<;>simp only[binS,Option.some.injEq,reduceCtorEq]at hv<;>subst hv <;>
     (refine⟨.bool _,?_,fun d _=>.p _ _ _ (.b _)⟩
      simp only[execOp,ho,r1.str,r2.str,Sem.run_bind,eqGuard_plain (v:=.string a1) ⟨fun _=>by simp,by simp⟩,Result.andThen_ok,binOp,Op.stringOp,Sem.run_pure])
   ·exact hk.elim
 ·rename_i hy
  split at hk
  ·rename_i b hb hst
   refine ret_sound hd hk fun e' h' he g w a s=>?_;obtain⟨_,r1⟩:=s.evo he m1 rfl;obtain⟨_,r2⟩:=s.evo he m2 hy;obtain⟨ad,n1,n2,hv,hbe⟩:=nilEq_rel r1 hb;refine⟨.bool b,?_,fun d _=>.p _ _ _ (.b _)⟩;have hyv:a.eval y=.slice none 0 0:=by generalize a.eval y=u at r2;cases r2;rfl
   simp[execOp,ho,hv,hyv,eqGuard_plain,binOp,run_eq_nil hty hst,hbe]
  ·rename_i b hb hst
   refine ret_sound hd hk fun e' h' he g w a s=>?_;obtain⟨_,r1⟩:=s.evo he m1 rfl;obtain⟨_,r2⟩:=s.evo he m2 hy;obtain⟨ad,n1,n2,hv,hbe⟩:=nilEq_rel r1 hb;refine⟨.bool (!b),?_,fun d _=>.p _ _ _ (.b _)⟩;have hyv:a.eval y=.slice none 0 0:=by generalize a.eval y=u at r2;cases r2;rfl
   simp[execOp,ho,hv,hyv,eqGuard_plain,binOp,run_eq_nil hty hst,hbe]
  ·exact hk.elim
 ·rename_i a1 b1 hx hy
  have hb:isBoolT ty t=true→P.underlying t=some .bool:=by
   intro hb;unfold isBoolT at hb;split at hb
   ·rename_i i hi
    split at hb
    ·rename_i hdd;rw[←hdd];exact(hty t i hi).und
    ·cases hb
   ·cases hb
  have heq:isBoolT ty t=true→∀w,(Op.equal t (.bool a1) (.bool b1)).run P w=.ok (a1==b1) w:=by
   intro h1 w;exact run_equalIn_bool 9999 (hb h1) a1 b1 w
  split at hk
  ·rename_i hbt
   refine ret_sound hd hk fun e' h' he g w a s=>?_;obtain⟨_,r1⟩:=s.evo he m1 hx;obtain⟨_,r2⟩:=s.evo he m2 hy;refine⟨.bool (a1==b1),?_,fun d _=>.p _ _ _ (.b _)⟩;simp[execOp,ho,r1.bool,r2.bool,eqGuard_plain,binOp,heq hbt]
  ·rename_i hbt
   refine ret_sound hd hk fun e' h' he g w a s=>?_;obtain⟨_,r1⟩:=s.evo he m1 hx;obtain⟨_,r2⟩:=s.evo he m2 hy;refine⟨.bool (!(a1==b1)),?_,fun d _=>.p _ _ _ (.b _)⟩;simp[execOp,ho,r1.bool,r2.bool,eqGuard_plain,binOp,heq hbt]
  ·exact hk.elim
 ·rename_i xs ys hx hy
  split at hk
  ·rename_i i hi
   split at hk
   ·rename_i kd ks hks
    have he:eqOK P t (kd::ks)=true:=by
     rcases (hty t i hi).eqs with q|q
     ·rw[q]at hks;cases hks
     ·rw[hks]at q;exact q
    have run:∀{g:Gh} {w:World} {h':Heap} {v u:Value} {ow ow':Option Owner} {q:Bool},flatEq (kd::ks) xs ys=some q→VRel g w (domOf h') ow v (.p (.agg xs))→VRel g w (domOf h') ow' u (.p (.agg ys))→
     ∃vs us,v=.agg vs∧u=.agg us∧(Op.equalIn 10000 t v u).run P w=.ok q w∧P.eqGuardType P.depth t=false:=by
     intro g w h' v u ow ow' q hq r1 r2
     cases r1 with
     |p _ _ _ p1=>
      cases r2 with
      |p _ _ _ p2=>
       cases p1 with
       |agg vs _ hl1 h11 hx1=>
        cases p2 with
        |agg us _ hl2 h12 hx2=>
         obtain⟨a1,a2⟩:=run_equal_flat (by simp) he (.agg vs xs hl1 h11 hx1) (.agg us ys hl2 h12 hx2) hq w;exact⟨_,_,rfl,rfl,a1,a2⟩
    split at hk
    ·rename_i q hq
     refine ret_sound hd hk fun e' h' he g w a s=>?_;obtain⟨_,r1⟩:=s.evo he m1 hx;obtain⟨_,r2⟩:=s.evo he m2 hy;obtain⟨vs,us,e1,e2,hr,hg⟩:=run hq r1 r2;refine⟨.bool q,?_,fun d _=>.p _ _ _ (.b _)⟩;rw[e1,e2]at hr;simp only[execOp,ho,e1,e2,Sem.run_bind,run_eqGuard_agg w _ _ _ _ _ _ hg,Result.andThen_ok,run_eql_struct,hr,Sem.run_pure]
    ·rename_i q hq
     refine ret_sound hd hk fun e' h' he g w a s=>?_;obtain⟨_,r1⟩:=s.evo he m1 hx;obtain⟨_,r2⟩:=s.evo he m2 hy;obtain⟨vs,us,e1,e2,hr,hg⟩:=run hq r1 r2;refine⟨.bool (!q),?_,fun d _=>.p _ _ _ (.b _)⟩;rw[e1,e2]at hr;simp only[execOp,ho,e1,e2,Sem.run_bind,run_eqGuard_agg w _ _ _ _ _ _ hg,Result.andThen_ok,run_neq_struct,hr,Sem.run_pure]
    ·exact hk.elim
   ·exact hk.elim
  ·exact hk.elim
 ·exact hk.elim
end
end Go.AM
end
