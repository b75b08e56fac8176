/- Part of a machine over plain values. No conditions. -/
import Derived.Test.YtdmopjgjhfhfdaaGreatDoorAMTop
import Derived.Test.YtdmopjgjhfhfdaaGreatDoorAMReg
namespace Go.AM
section
variable {P:Program} {ty:Nat→Option TI} {n:Nat}
theorem AWp.seq {x y:Code} {K:Exit→Env→Heap→Prop} {e:Env} {h:Heap} (hk:AWp P n x (fun ex e' h'=>match ex with|.normal=>AWp P n y K e' h'|ex=>K ex e' h') e h):AWp P n (.seq x y) K e h:=by
 intro g0 w0 g w a s hE;refine wp_seq (wp_mono (hk g0 w0 g w a s hE) ?_);rintro ex a' w' ⟨g',e',h',hk',s',hE'⟩
 cases ex with
 |normal=>exact hk' g0 w0 g' w' a' s' hE'
 |_=>exact⟨g',e',h',hk',s',hE'⟩
theorem AWp.mask {c:Code} {K:Exit→Env→Heap→Prop} {lv ll:List Nat} {vals:List AV} {objs:List AObj} {e:Env} {h:Heap} (h0:Atv lv ll vals objs e h) (hk:AWp P n c K (lv.zip vals) (ll.zip objs)):AWp P n c K e h:=by
 intro g0 w0 g w a s hE;refine hk g0 w0 g w a ?_ hE;have:=s.mask (lv:=lv) (ll:=ll) h0.1 (by rw[h0.2.1];exact h0.2.2.1) h0.2.2.2;rw[h0.2.1]at this;exact this
noncomputable def awpS (ty:Nat→Option TI) (P:Program) (n:Nat) (T:Env→Heap→Prop) (K:Exit→Env→Heap→Prop) (k:Nat):Code→Env→Heap→Prop:=
 @Nat.rec (fun _=>Code→Env→Heap→Prop) (fun _ e h=>T e h)
  (fun _ ih c=>@Code.rec (fun _=>Env→Heap→Prop) (fun _ _=>False) (fun _ _ _ _ _=>False)
    (fun x y _ _ e h=>awp ty (pcall P) (lpOf P n) x (fun ex e' h'=>match ex with|.normal=>ih y e' h'|ex=>K ex e' h') e h)
    (fun _ _ _ _ _ _ _=>False) (fun _ _ _ _ _=>False) (fun _ _ _ _=>False) (fun _ _ _ _ _ _ _ _=>False) (fun _ _ _=>False) (fun _ _ _ _=>False) (fun _ _ _=>False) (fun _ _ _=>False) (fun _ _=>False) (fun _ _ _=>False) c) k
noncomputable def restS (k:Nat):Code→Code:=
 @Nat.rec (fun _=>Code→Code) (fun c=>c)
  (fun _ ih c=>@Code.rec (fun _=>Code) c (fun _ _ _=>c) (fun _ y _ _=>ih y) (fun _ _ _ _ _=>c) (fun _ _ _=>c) (fun _ _=>c) (fun _ _ _ _ _ _=>c) (fun _=>c) (fun _ _=>c) (fun _=>c) (fun _=>c) c (fun _=>c) c) k
theorem awpS_sound (hty:TyOK P ty) (hmix:P.follows .mixedOrders=true) {T:Env→Heap→Prop} {K:Exit→Env→Heap→Prop}:∀(k:Nat) (c:Code) (e:Env) (h:Heap),codeOK n c=true→(∀e h,T e h→AWp P n (restS k c) K e h)→awpS ty P n T K k c e h→AWp P n c K e h
 |0,c,e,h,_,hT,hk=>hT e h hk
 |k+1,.seq x y,e,h,hok,hT,hk=>by
  have hok:codeOK n x=true∧codeOK n y=true:=by simpa[codeOK] using hok
  refine AWp.seq ?_;intro g0 w0 g w a s hE;refine wp_mono (awp_sound hty hmix x _ e h hok.1 hk g0 w0 g w a s hE) ?_;rintro ex a' w' ⟨g',e',h',hk',s',hE'⟩;refine⟨g',e',h',?_,s',hE'⟩
  cases ex with
  |normal=>exact awpS_sound hty hmix k y e' h' hok.2 hT hk'
  |_=>exact hk'
 |_+1,.skip,_,_,_,_,hk=>hk.elim
 |_+1,.region ..,_,_,_,_,hk=>hk.elim
 |_+1,.cond ..,_,_,_,_,hk=>hk.elim
 |_+1,.block ..,_,_,_,_,hk=>hk.elim
 |_+1,.exit _,_,_,_,_,hk=>hk.elim
 |_+1,.ret,_,_,_,_,hk=>hk.elim
 |_+1,.loop _,_,_,_,_,hk=>hk.elim
 |_+1,.rangeFunc ..,_,_,_,_,hk=>hk.elim
 |_+1,.scope _,_,_,_,_,hk=>hk.elim
 |_+1,.label _,_,_,_,_,hk=>hk.elim
 |_+1,.goto _,_,_,_,_,hk=>hk.elim
 |_+1,.refuse _,_,_,_,_,hk=>hk.elim
theorem AWp.cut (hty:TyOK P ty) (hmix:P.follows .mixedOrders=true) {c:Code} {K:Exit→Env→Heap→Prop} {e:Env} {h:Heap} (hok:codeOK n c=true) (k:Nat) (lv ll:List Nat) {σ:Type} (V:σ→List AV) (O:σ→List AObj) (Q:σ→Prop)
 (h1:awpS ty P n (fun e h=>∃s,Atv lv ll (V s) (O s) e h∧Q s) K k c e h) (h2:∀s,Q s→AWp P n (restS k c) K (lv.zip (V s)) (ll.zip (O s))):AWp P n c K e h:=
 awpS_sound hty hmix k c e h hok (fun e h ⟨s,ha,hq⟩=>AWp.mask ha (h2 s hq)) h1
theorem AWp.fin (hty:TyOK P ty) (hmix:P.follows .mixedOrders=true) {c:Code} {K:Exit→Env→Heap→Prop} {e:Env} {h:Heap} (hok:codeOK n c=true) (hk:awp ty (pcall P) (lpOf P n) c K e h):AWp P n c K e h:=awp_sound hty hmix c K e h hok hk
theorem APure.introS (hty:TyOK P ty) {f:Nat} {fn:Func} {c:Code} {args:List AV} {r:AV} (hf:P.funcs[f]?=some fn) (hb:fn.body=some c) (hname:(fn.name== "runtime.NumGoroutine")=false)
 (hlen:args.length≤fn.ntmps) (hr:okRes r=true)
 (hk:AWp P fn.ntmps c (retK ty fn.results.toList fn.resultTypes.toList r) (argEnv 0 args) []):APure P f args r:=by
 refine⟨⟨fn,c,hf,hb,hname⟩,fun g w vs hno hsw hl hrel=>?_⟩
 have s0:=Sim.start (fn:=fn) (hs:=[]) hlen (g:=g) (w:=w) ⟨fun l o q=>by simp[hget]at q,fun l o q=>by simp[hget]at q,fun l o q=>by simp[hget]at q⟩ (fun b o q=>by rw[hno b]at q;cases q) hl
  (fun j v x q1 q2=>(hrel j v x q1 q2).domUp (fun _ q=>q.elim))
 refine calls_of_wp hf hb (wp_mono (hk g w g w _ s0 (Ext.refl _ _)) ?_);rintro ex a' w' ⟨g1,e1,h1,hk1,s1,hE1⟩
 have fin:(match resOf ty fn.results.toList fn.resultTypes.toList e1 h1 with|some v=>RetOKB h1 v r|none=>False)→a'.defers=[]∧∃v,(results fn a'.tmps).run P w'=.ok v w'∧(∃v1 g',Ending.returned v=.returned v1∧VRel g' w' (fun _=>False) (some .ret) v1 r∧Ext g w g' w'):=by
  intro hq;refine⟨s1.defers,?_⟩;split at hq
  ·rename_i x hx
   obtain⟨v,hrun,t,hv⟩:=resOf_rel (P:=P) hty s1 hx;refine⟨v,hrun,?_⟩;rcases hq with rfl|rfl|⟨l,xs,rfl,hh,rfl⟩
   ·obtain⟨g',q1,q2⟩:=okRes_rel hno hE1 hr hv;exact⟨v,g',rfl,q1,q2⟩
   ·obtain⟨g',q1,q2⟩:=okRes_rel hno hE1 hr (t:=t) hv.copy;exact⟨v,g',rfl,q1,q2⟩
   ·refine⟨v,g1.lay w',rfl,(.p _ _ _ (by cases hv with|ar _ _ m hdm hn=>exact arr_show s1.heap hh hn)),hE1.size,hE1.os,hE1.out,fun b k u hu=>imm_show (hE1.imm b k u hu),fun b hb hn=>⟨(hE1.kept b hb hn).1,?_,rfl⟩,⟨hE1.frz.1,funext fun q=>(hsw q).symm,hE1.frz.2.2⟩,hE1.frz',hE1.ρk,hE1.siz⟩
    show layPre g1 w' b=g.pre b;unfold layPre;rw[(hE1.kept b hb hn).2.2];exact(hE1.kept b hb hn).2.1
  ·exact hq.elim
 cases ex with
 |normal=>exact fin hk1
 |ret=>exact fin hk1
 |_=>exact hk1.elim
theorem AMem.introS (hty:TyOK P ty) {f:Nat} {fn:Func} {c:Code} {args:List AV} {hs:Heap} {r:AV} {h':Heap} (hf:P.funcs[f]?=some fn) (hb:fn.body=some c) (hname:(fn.name== "runtime.NumGoroutine")=false)
 (hlen:args.length≤fn.ntmps) (hr:(r.within (memB (keysOf h'))&&objsIn (memB (keysOf h')) h'&&globB hs h')=true)
 (hk:AWp P fn.ntmps c (retKM ty fn.results.toList fn.resultTypes.toList r h') (argEnv 0 args) hs):AMem P f args hs r h':=by
 simp only[Bool.and_eq_true]at hr;obtain⟨⟨hr1,hr2⟩,hr3⟩:=hr;refine⟨⟨⟨fn,c,hf,hb,hname⟩,hr3⟩,fun g w vs hH hbn hl hrel=>?_⟩;have s0:=Sim.start (fn:=fn) hlen hH hbn hl hrel;refine calls_of_wp hf hb (wp_mono (hk g w g w _ s0 (Ext.refl _ _)) ?_);rintro ex a' w' ⟨g1,e1,h1,hk1,s1,hE1⟩
 have fin:(match resOf ty fn.results.toList fn.resultTypes.toList e1 h1 with|some v=>RetOK v r∧heapOK h1 h'|none=>False)→a'.defers=[]∧∃v,(results fn a'.tmps).run P w'=.ok v w'∧
  (∃v1 g',Ending.returned v=.returned v1∧VRel g' w' (domOf h') (some .ret) v1 r∧HRel g' w' h'∧(∀b ow,g'.own b=some ow→b<w'.heap.size)∧Ext g w g' w'):=by
  intro hq;refine⟨s1.defers,?_⟩;split at hq
  ·rename_i x hx
   obtain⟨hq,hheap⟩:=hq;obtain⟨v,hrun,t,hv⟩:=resOf_rel (P:=P) hty s1 hx
   have hv:VRel g1 w' (domOf h1) (some (.slot t)) v r:=by
    rcases hq with rfl|rfl
    ·exact hv
    ·exact hv.copy
   have hdom:∀l,memB (keysOf h') l=true→domOf h' l:=fun l hl=>by
    obtain⟨ob,hob⟩:=hget_of_key h' l (memB_mem _ _ hl);unfold domOf;rw[hob];rfl
   let g':Gh:={ pre:=g1.pre,own:=fun b=>retOwn h' t (g1.own b),ρ:=g1.ρ,σ:=g1.σ,sown:=g1.sown }
   have conv:∀{ow:Option Owner} {u:Value} {y:AV},(∀q,ow=some q→retOwn h' t (some q)=some q)→VRel g1 w' (domOf h1) ow u y→y.within (memB (keysOf h'))=true→VRel g' w' (domOf h') ow u y:=by
    intro ow u y hq r0 hin;have r1:=r0.within (dom':=domOf h') hdom hin;exact VRel.keep (g:=g1) (g':=g') (w:=w') (w':=w') (fun _ _ _ hv=>hv) (fun l hl=>⟨hl,rfl⟩) (fun l cs E _ hb=>⟨cs,E,hb,rfl⟩) (fun q b e1 ho=>⟨by show retOwn h' t (g1.own b)=some q;rw[ho];exact hq q e1,rfl,rfl⟩) r1
   refine⟨v,hrun,v,g',rfl,?_,⟨fun l ob hl=>?_,fun l ob hl hsl=>?_,fun l ob hl hsl=>?_⟩,fun b q hq=>?_,?_⟩
   ·cases r with
    |so sz xs=>
     cases hv with
     |full _ a _ _ hz hp=>exact .full _ a sz xs hz hp
     |own _ a cap _ _ cs E hz hp ho hpre hb' hs'=>exact .own .ret a cap sz xs cs E hz hp (by show retOwn h' t (g1.own a.block)=_;rw[ho];simp[retOwn]) hpre hb' hs'
    |_=>exact(conv (ow:=none) (fun _ q=>by cases q) (hv.anyOwner (fun _ _ q=>by cases q)) hr1).anyOwner (fun _ _ q=>by cases q)
   ·obtain⟨ob0,q1,q2⟩:=heapOK_get h' hheap l ob hl
    have hin:=objsIn_get h' hr2 l ob hl;have hkl:=hget_key _ _ _ hl
    cases (s1.heap.obj l ob0 q1).le q2 with
    |cells cs vs' E hb' hlen' hxx h1'=>exact .cells cs vs' E hb' hlen' (fun j u c q3 q4=>conv (fun q e1=>by cases e1;simp[retOwn,hkl]) (hxx j u c q3 q4) (withins_get _ cs (by simpa[AObj.within] using hin) j c q4)) h1'
    |arr xs vs' E hb' hlen' hxx h1'=>exact .arr xs vs' E hb' hlen' hxx h1'
    |store T3 o3 sp3 nx3 z3 M3 hst=>exact .store T3 o3 sp3 nx3 z3 M3 (hst.mono (fun _ _ _ q=>q) (fun bb hb2=>⟨by show retOwn h' t (g1.own bb)=_;rw[hb2];simp[retOwn,hkl],rfl,rfl⟩) hst.sown)
    |glob gb gvs hgl=>exact ORel.globM hgl (fun h1 _ _=>⟨rfl,by show retOwn h' t (g1.own gb)=none;rw[h1];rfl⟩)
   ·obtain⟨ob0,q1,q2⟩:=heapOK_get h' hheap l ob hl
    show retOwn h' t (g1.own (g1.ρ l))=_;rw[s1.heap.own l ob0 q1 (q2.solid hsl)];simp[retOwn,hget_key _ _ _ hl]
   ·obtain⟨ob0,q1,q2⟩:=heapOK_get h' hheap l ob hl
    exact s1.heap.pre l ob0 q1 (q2.solid hsl)
   ·have hq:retOwn h' t (g1.own b)=some q:=hq
    cases hg:g1.own b with
    |none=>rw[hg]at hq;simp[retOwn]at hq
    |some q'=>exact s1.bnd b q' hg
   ·exact⟨hE1.size,hE1.os,hE1.out,hE1.imm,fun b hb hn=>⟨(hE1.kept b hb hn).1,(hE1.kept b hb hn).2.1,by show retOwn h' t (g1.own b)=none;rw[(hE1.kept b hb hn).2.2];rfl⟩,hE1.frz,hE1.frz',hE1.ρk,hE1.siz⟩
  ·exact hq.elim
 cases ex with
 |normal=>exact fin hk1
 |ret=>exact fin hk1
 |_=>exact hk1.elim
end
end Go.AM
