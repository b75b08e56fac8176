/- Part of a machine over plain values. No conditions. -/
import Derived.Test.YtdmopjgjhfhfdaaGreatDoorAMMv
namespace Go.AM
def over (a:Act) (ds:List Deferred):Act:={ a with defers:=a.defers++ds }
theorem over_eval (a:Act) (ds:List Deferred):(over a ds).eval=a.eval:=by
 funext x
 cases x<;>rfl
theorem over_put (a:Act) (ds:List Deferred) (d:Option Tmp) (v:Value):(over a ds).put d v=over (a.put d v) ds:=by
 cases d<;>rfl
def QOv (ds:List Deferred) (Q:Exit→Act→World→Prop):Exit→Act→World→Prop:=fun x a w=>∃a0,a=over a0 ds∧Q x a0 w
theorem LetsOut.over {ds:List Deferred} {Q:Exit→Act→World→Prop} (h:LetsOut Q):LetsOut (QOv ds Q):=by
 obtain⟨a,w,h⟩:=h;exact⟨AM.over a ds,w,a,rfl,h⟩
theorem wpOps_over {P:Program} {ops:Array Oper} {Q:Exit→Act→World→Prop} (ds:List Deferred):∀(l:List Nat) (a:Act) (w:World),wpOps P ops Q l a w→wpOps P ops (QOv ds Q) l (over a ds) w
 | [],a,w,h=>⟨a,rfl,h⟩
 |i::r,a,w,h=>by
  unfold wpOps at h ⊢;split
  ·rename_i hn;rw[hn]at h;exact wpOps_over ds r a w h
  ·rename_i o hn
   rw[hn]at h;simp only at h;have ht:(over a ds).tmps=a.tmps:=rfl;rw[ht];split
   ·rename_i hw
    rw[if_pos hw]at h;rcases h with h|⟨h,h'⟩
    ·left
     unfold Oper.wp at *;rw[over_eval];generalize (execOp a.eval o).run P w=rr at *;unfold Oper.upon at *;split at h
     ·rw[over_put];exact wpOps_over ds r _ _ h
     ·rw[over_put];exact wpOps_over ds r _ _ h
     ·rename_i d w'
      have:=wpOps_over ds r _ _ h;rw[show({ over a ds with defers:=d::(over a ds).defers }:Act)=over { a with defers:=d::a.defers } ds from rfl,over_put];exact this
     ·refine h.mono ?_
      rintro en w' hen
      cases en with
      |returned v=>
       show wpOps P ops _ r ((over a ds).put o.dst v) w';rw[over_put];exact wpOps_over ds r _ _ hen
      |panicked c=>exact⟨a,rfl,hen⟩
      |outgrown=>exact LetsOut.over hen
     ·refine h.mono (fun v w' h=>?_)
      rw[over_put];exact wpOps_over ds r _ _ h
     ·exact⟨a,rfl,h⟩
     ·exact h.elim
    ·right
     refine⟨?_,LetsOut.over h'⟩;unfold Oper.asks at *;rw[over_eval];exact h
   ·rename_i hw
    rw[if_neg hw]at h;rw[over_put];exact wpOps_over ds r _ _ h
theorem wpOp_over {P:Program} {ops:Array Oper} {Q:Exit→Act→World→Prop} (ds:List Deferred) {i:Nat} {next next':Act→World→Prop} (hn':∀a w,next a w→next' (over a ds) w) (a:Act) (w:World) (h:wpOp P ops Q i next a w):wpOp P ops (QOv ds Q) i next' (over a ds) w:=by
 unfold wpOp at h ⊢;split
 ·rename_i hn;rw[hn]at h;exact hn' a w h
 ·rename_i o hn
  rw[hn]at h;simp only at h;have ht:(over a ds).tmps=a.tmps:=rfl;rw[ht];split
  ·rename_i hw
   rw[if_pos hw]at h;rcases h with h|⟨h,h'⟩
   ·left
    unfold Oper.wp at *;rw[over_eval];generalize (execOp a.eval o).run P w=rr at *;unfold Oper.upon at *;split at h
    ·rw[over_put];exact hn' _ _ h
    ·rw[over_put];exact hn' _ _ h
    ·rename_i d w'
     have:=hn' _ _ h;rw[show({ over a ds with defers:=d::(over a ds).defers }:Act)=over { a with defers:=d::a.defers } ds from rfl,over_put];exact this
    ·refine h.mono ?_
     rintro en w' hen
     cases en with
     |returned v=>
      show next' ((over a ds).put o.dst v) w';rw[over_put];exact hn' _ _ hen
     |panicked c=>exact⟨a,rfl,hen⟩
     |outgrown=>exact LetsOut.over hen
    ·refine h.mono (fun v w' h=>?_)
     rw[over_put];exact hn' _ _ h
    ·exact⟨a,rfl,h⟩
    ·exact h.elim
   ·right
    refine⟨?_,LetsOut.over h'⟩;unfold Oper.asks at *;rw[over_eval];exact h
  ·rename_i hw
   rw[if_neg hw]at h;rw[over_put];exact hn' _ _ h
theorem wpAny_over {P:Program} {md:Region.Mode} {ops:Array Oper} {Q:Exit→Act→World→Prop} (ds:List Deferred):∀(fuel:Nat) (listed:Array Bool) (a:Act) (w:World),wpAny P md ops Q fuel listed a w→wpAny P md ops (QOv ds Q) fuel listed (over a ds) w
 |0,_,a,_,h=>⟨h.1,a,rfl,h.2⟩
 |fuel+1,_,a,_,h=>⟨fun hr=>⟨a,rfl,h.1 hr⟩,fun i hi=>wpOp_over ds (fun a w h=>wpAny_over ds fuel _ a w h) _ _ (h.2 i hi)⟩
section
variable {P:Program} {ty:Nat→Option TI} {n:Nat}
def AWpO (P:Program) (n:Nat) (ds:List Deferred) (c:Code) (K:Exit→Env→Heap→Prop) (e:Env) (h:Heap):Prop:=
 ∀g0 w0 g w a,Sim g w n a e h→Ext g0 w0 g w→c.wp P (QOv ds (QOf n K g0 w0)) (over a ds) w
theorem awpO_sound (hty:TyOK P ty) (hmix:P.follows .mixedOrders=true) (ds:List Deferred):∀(c:Code) (K:Exit→Env→Heap→Prop) (e:Env) (h:Heap),codeOK n c=true→awp ty (pcall P) (fun _ _ _ _=>False) c K e h→AWpO P n ds c K e h
 |.skip,K,e,h,_,hk=>fun g0 w0 g w a s hE=>wp_skip (Q:=QOv ds (QOf n K g0 w0)) ⟨a,rfl,g,e,h,hk,s,hE⟩
 |.region id ops false,K,e,h,hok,hk=>fun g0 w0 g w a s hE=>by
  refine wp_region ?_;rw[List.range_eq_range'];refine wpOps_over ds _ _ _ ?_;have:=aops_sound hty (by simpa[codeOK] using hok) ops.toList 0 e h g w a (fun j=>by simp) hk s hE;simpa using this
 |.region id ops true,K,e,h,hok,hk=>fun g0 w0 g w a s hE=>by
  exact wp_region_any hmix (wpAny_over ds _ _ _ _ (awp_draw hty (by simpa[codeOK] using hok) hk s hE))
 |.seq x y,K,e,h,hok,hk=>fun g0 w0 g w a s hE=>by
  have hok:codeOK n x=true∧codeOK n y=true:=by simpa[codeOK] using hok
  refine wp_seq (wp_mono (awpO_sound hty hmix ds x _ e h hok.1 hk g0 w0 g w a s hE) ?_);intro ex a' w' hq
  cases ex with
  |normal=>
   obtain⟨a',rfl,g',e',h',hk',s',hE'⟩:=hq;exact awpO_sound hty hmix ds y K e' h' hok.2 hk' g0 w0 g' w' a' s' hE'
  |_=>exact hq
 |.cond c x y,K,e,h,hok,hk=>fun g0 w0 g w a s hE=>by
  have hok:codeOK n x=true∧codeOK n y=true:=by simpa[codeOK] using hok
  have hk:(match Go.AM.ev e c with|.p (.b g)=>ASplit g (awp ty (pcall P) (fun _ _ _ _=>False) x K e h) (awp ty (pcall P) (fun _ _ _ _=>False) y K e h)|_=>AStuck "cond"):=hk;split at hk
  ·rename_i b hb
   obtain⟨_,r⟩:=s.ev c;rw[hb]at r;refine wp_cond (by rw[over_eval];exact r.bool) ?_
   cases b with
   |true=>exact awpO_sound hty hmix ds x K e h hok.1 hk g0 w0 g w a s hE
   |false=>exact awpO_sound hty hmix ds y K e h hok.2 hk g0 w0 g w a s hE
  ·exact hk.elim
 |.block id c,K,e,h,hok,hk=>fun g0 w0 g w a s hE=>by
  refine wp_block (wp_mono (awpO_sound hty hmix ds c _ e h (by simpa[codeOK] using hok) hk g0 w0 g w a s hE) ?_);intro ex a' w' hq
  cases ex with
  |exit i=>
   obtain⟨a',rfl,g',e',h',hk',s',hE'⟩:=hq;simp only[Exit.inBlock]
   by_cases q:i=id
   ·subst q
    rw[if_pos rfl];simp only[beq_self]at hk';exact⟨a',rfl,g',e',h',hk',s',hE'⟩
   ·rw[if_neg q]
    simp only[beq_false q]at hk';exact⟨a',rfl,g',e',h',hk',s',hE'⟩
  |_=>exact hq
 |.exit id,K,e,h,_,hk=>fun g0 w0 g w a s hE=>wp_exit (Q:=QOv ds (QOf n K g0 w0)) ⟨a,rfl,g,e,h,hk,s,hE⟩
 |.ret,K,e,h,_,hk=>fun g0 w0 g w a s hE=>wp_ret (Q:=QOv ds (QOf n K g0 w0)) ⟨a,rfl,g,e,h,hk,s,hE⟩
 |.loop c,K,e,h,_,hk=>hk.elim
 |.rangeFunc ..,K,e,h,_,hk=>hk.elim
 |.scope _,K,e,h,_,hk=>hk.elim
 |.label _,K,e,h,_,hk=>hk.elim
 |.goto _,K,e,h,_,hk=>hk.elim
 |.refuse _,K,e,h,_,hk=>hk.elim
end
end Go.AM
namespace Go.AM
section
variable {P:Program} {ty:Nat→Option TI} {n:Nat}
theorem done_rel (hty:TyOK P ty) {fn:Func} {r:AV} {h':Heap} (hr:(r.within (memB (keysOf h'))&&objsIn (memB (keysOf h')) h')=true) {g g1:Gh} {w w':World} {a':Act} {e1:Env} {h1:Heap} (s1:Sim g1 w' n a' e1 h1) (hE1:Ext g w g1 w')
 (hq:match resOf ty fn.results.toList fn.resultTypes.toList e1 h1 with|some v=>RetOK v r∧heapOK h1 h'|none=>False):∃v,(results fn a'.tmps).run P w'=.ok v w'∧
   (∃v1 g',Ending.returned v=.returned v1∧VRel g' w' (domOf h') (some .ret) v1 r∧HRel g' w' h'∧(∀b ow,g'.own b=some ow→b<w'.heap.size)∧Ext g w g' w'):=by
 simp only[Bool.and_eq_true]at hr;obtain⟨hr1,hr2⟩:=hr;split at hq
 ·rename_i x hx
  obtain⟨hq,hheap⟩:=hq;obtain⟨v,hrun,t,hv⟩:=resOf_rel (P:=P) hty s1 hx
  have hv:VRel g1 w' (domOf h1) (some (.slot t)) v r:=by
   rcases hq with rfl|rfl
   ·exact hv
   ·exact hv.copy
  have hdom:∀l,memB (keysOf h') l=true→domOf h' l:=fun l hl=>by
   obtain⟨ob,hob⟩:=hget_of_key h' l (memB_mem _ _ hl);unfold domOf;rw[hob];rfl
  let g':Gh:={ pre:=g1.pre,own:=fun b=>retOwn h' t (g1.own b),ρ:=g1.ρ,σ:=g1.σ,sown:=g1.sown }
  have conv:∀{ow:Option Owner} {u:Value} {y:AV},(∀q,ow=some q→retOwn h' t (some q)=some q)→VRel g1 w' (domOf h1) ow u y→y.within (memB (keysOf h'))=true→VRel g' w' (domOf h') ow u y:=by
   intro ow u y hq r0 hin;have r1:=r0.within (dom':=domOf h') hdom hin;exact VRel.keep (g:=g1) (g':=g') (w:=w') (w':=w') (fun _ _ _ hv=>hv) (fun l hl=>⟨hl,rfl⟩) (fun l cs E _ hb=>⟨cs,E,hb,rfl⟩) (fun q b e1 ho=>⟨by show retOwn h' t (g1.own b)=some q;rw[ho];exact hq q e1,rfl,rfl⟩) r1
  refine⟨v,hrun,v,g',rfl,?_,⟨fun l ob hl=>?_,fun l ob hl hsl=>?_,fun l ob hl hsl=>?_⟩,fun b q hq=>?_,?_⟩
  ·cases r with
   |so sz xs=>
    cases hv with
    |full _ a _ _ hz hp=>exact .full _ a sz xs hz hp
    |own _ a cap _ _ cs E hz hp ho hpre hb' hs'=>exact .own .ret a cap sz xs cs E hz hp (by show retOwn h' t (g1.own a.block)=_;rw[ho];simp[retOwn]) hpre hb' hs'
   |_=>exact(conv (ow:=none) (fun _ q=>by cases q) (hv.anyOwner (fun _ _ q=>by cases q)) hr1).anyOwner (fun _ _ q=>by cases q)
  ·obtain⟨ob0,q1,q2⟩:=heapOK_get h' hheap l ob hl
   have hin:=objsIn_get h' hr2 l ob hl;have hkl:=hget_key _ _ _ hl
   cases (s1.heap.obj l ob0 q1).le q2 with
   |cells cs vs' E hb' hlen' hxx h1'=>exact .cells cs vs' E hb' hlen' (fun j u c q3 q4=>conv (fun q e1=>by cases e1;simp[retOwn,hkl]) (hxx j u c q3 q4) (withins_get _ cs (by simpa[AObj.within] using hin) j c q4)) h1'
   |arr xs vs' E hb' hlen' hxx h1'=>exact .arr xs vs' E hb' hlen' hxx h1'
   |store T3 o3 sp3 nx3 z3 M3 hst=>exact .store T3 o3 sp3 nx3 z3 M3 (hst.mono (fun _ _ _ q=>q) (fun bb hb2=>⟨by show retOwn h' t (g1.own bb)=_;rw[hb2];simp[retOwn,hkl],rfl,rfl⟩) hst.sown)
   |glob gb gvs hgl=>exact ORel.globM hgl (fun h1 _ _=>⟨rfl,by show retOwn h' t (g1.own gb)=none;rw[h1];rfl⟩)
  ·obtain⟨ob0,q1,q2⟩:=heapOK_get h' hheap l ob hl
   show retOwn h' t (g1.own (g1.ρ l))=_;rw[s1.heap.own l ob0 q1 (q2.solid hsl)];simp[retOwn,hget_key _ _ _ hl]
  ·obtain⟨ob0,q1,q2⟩:=heapOK_get h' hheap l ob hl
   exact s1.heap.pre l ob0 q1 (q2.solid hsl)
  ·have hq:retOwn h' t (g1.own b)=some q:=hq
   cases hg:g1.own b with
   |none=>rw[hg]at hq;simp[retOwn]at hq
   |some q'=>exact s1.bnd b q' hg
  ·exact⟨hE1.size,hE1.os,hE1.out,hE1.imm,fun b hb hn=>⟨(hE1.kept b hb hn).1,(hE1.kept b hb hn).2.1,by show retOwn h' t (g1.own b)=none;rw[(hE1.kept b hb hn).2.2];rfl⟩,hE1.frz,hE1.frz',hE1.ρk,hE1.siz⟩
 ·exact hq.elim
theorem AWp.andThen {c rest:Code} {K:Exit→Env→Heap→Prop} {e:Env} {h:Heap} (hk:AWp P n c K e h) {Q:Exit→Act→World→Prop} {g0 g:Gh} {w0 w:World} {a:Act} (s:Sim g w n a e h) (hE:Ext g0 w0 g w)
 (hn:∀g' w' a' e' h',K .normal e' h'→Sim g' w' n a' e' h'→Ext g0 w0 g' w'→rest.wp P Q a' w') (hx:∀x g' w' a' e' h',x≠.normal→K x e' h'→Sim g' w' n a' e' h'→Ext g0 w0 g' w'→Q x a' w'):(Code.seq c rest).wp P Q a w:=by
 refine wp_seq (wp_mono (hk g0 w0 g w a s hE) ?_);rintro x a' w' ⟨g',e',h',hk',s',hE'⟩
 cases x with
 |normal=>exact hn g' w' a' e' h' hk' s' hE'
 |_=>exact hx _ g' w' a' e' h' (by intro q;cases q) hk' s' hE'
theorem Sim.atv {g:Gh} {w:World} {a:Act} {e:Env} {h:Heap} (s:Sim g w n a e h) {lv ll:List Nat} {vals:List AV} {objs:List AObj} (ha:Atv lv ll vals objs e h):Sim g w n a (lv.zip vals) (ll.zip objs):=by
 have:=s.mask (lv:=lv) (ll:=ll) ha.1 (by rw[ha.2.1];exact ha.2.2.1) ha.2.2.2;rw[ha.2.1]at this;exact this
theorem AWpO.andThen {c rest:Code} {ds:List Deferred} {K:Exit→Env→Heap→Prop} {e:Env} {h:Heap} (hk:AWpO P n ds c K e h) {Q:Exit→Act→World→Prop} {g0 g:Gh} {w0 w:World} {a:Act} (s:Sim g w n a e h) (hE:Ext g0 w0 g w)
 (hn:∀g' w' a' e' h',K .normal e' h'→Sim g' w' n a' e' h'→Ext g0 w0 g' w'→rest.wp P Q (over a' ds) w') (hx:∀x g' w' a' e' h',x≠.normal→K x e' h'→Sim g' w' n a' e' h'→Ext g0 w0 g' w'→Q x (over a' ds) w'):(Code.seq c rest).wp P Q (over a ds) w:=by
 refine wp_seq (wp_mono (hk g0 w0 g w a s hE) ?_);rintro x a' w' ⟨a',rfl,hq⟩
 cases x with
 |normal=>
  obtain⟨g',e',h',hk',s',hE'⟩:=hq;exact hn g' w' a' e' h' hk' s' hE'
 |_=>
  obtain⟨g',e',h',hk',s',hE'⟩:=hq;exact hx _ g' w' a' e' h' (by intro q;cases q) hk' s' hE'
theorem AWpO.end {c:Code} {ds:List Deferred} {K:Exit→Env→Heap→Prop} {e:Env} {h:Heap} (hk:AWpO P n ds c K e h) {Q:Exit→Act→World→Prop} {g0 g:Gh} {w0 w:World} {a:Act} (s:Sim g w n a e h) (hE:Ext g0 w0 g w)
 (hx:∀x g' w' a' e' h',K x e' h'→Sim g' w' n a' e' h'→Ext g0 w0 g' w'→Q x (over a' ds) w'):c.wp P Q (over a ds) w:=by
 refine wp_mono (hk g0 w0 g w a s hE) ?_;rintro x a' w' ⟨a',rfl,hq⟩
 cases x with
 |_=>
  obtain⟨g',e',h',hk',s',hE'⟩:=hq;exact hx _ g' w' a' e' h' hk' s' hE'
end
end Go.AM
