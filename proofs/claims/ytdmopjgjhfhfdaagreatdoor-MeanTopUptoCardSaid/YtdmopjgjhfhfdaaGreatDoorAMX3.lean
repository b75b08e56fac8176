/- Part of a machine over plain values. No conditions. -/
import Derived.Test.YtdmopjgjhfhfdaaGreatDoorLS8
set_option linter.all false
set_option maxRecDepth 100000
section
namespace Go.AM
def over (a:Act) (ds:List Deferred):Act:={ a with defers:=a.defers++ds }
theorem nE (a:Act) (ds:List Deferred):(over a ds).eval=a.eval:=by
 funext x
 cases x<;>rfl
theorem fG (a:Act) (ds:List Deferred) (d:Option Tmp) (v:Value):(over a ds).put d v=over (a.put d v) ds:=by
 cases d<;>rfl
def NZ (ds:List Deferred) (Q:Exit->Act->World->Prop):Exit->Act->World->Prop:=fun x a w=>∃a0,a=over a0 ds/\Q x a0 w
theorem LetsOut.over {ds:List Deferred} {Q:Exit->Act->World->Prop} (h:LetsOut Q):LetsOut (NZ ds Q):=by
 obtain⟨a,w,h⟩:=h;exact⟨AM.over a ds,w,a,rfl,h⟩
theorem gy {P:Program} {ops:Array Oper} {Q:Exit->Act->World->Prop} (ds:List Deferred):∀(l:List Nat) (a:Act) (w:World),wpOps P ops Q l a w->wpOps P ops (NZ ds Q) l (over a ds) w
 | [],a,w,h=>⟨a,rfl,h⟩
 |i::r,a,w,h=>by
  unfold wpOps at h ⊢;split
  ·rename_i hn;rw[hn]at h;exact gy ds r a w h
  ·rename_i o hn
   rw[hn]at h;simp only at h;have ht:(over a ds).tmps=a.tmps:=rfl;rw[ht];split
   ·rename_i hw
    rw[if_pos hw]at h;rcases h with h|⟨h,h'⟩
    ·left
     unfold Oper.wp at *;rw[nE];generalize (execOp a.eval o).run P w=rr at *;unfold Oper.upon at *;split at h
     ·rw[fG];exact gy ds r _ _ h
     ·rw[fG];exact gy ds r _ _ h
     ·rename_i d w'
      have:=gy ds r _ _ h;rw[show({ over a ds with defers:=d::(over a ds).defers }:Act)=over { a with defers:=d::a.defers } ds from rfl,fG];exact this
     ·refine h.mono ?_
      rintro en w' hen
      cases en with
      |returned v=>
       show wpOps P ops _ r ((over a ds).put o.dst v) w';rw[fG];exact gy ds r _ _ hen
      |panicked c=>exact⟨a,rfl,hen⟩
      |outgrown=>exact LetsOut.over hen
     ·refine h.mono (fun v w' h=>?_)
      rw[fG];exact gy ds r _ _ h
     ·exact⟨a,rfl,h⟩
     ·exact h.elim
    ·right
     refine⟨?_,LetsOut.over h'⟩;unfold Oper.asks at *;rw[nE];exact h
   ·rename_i hw
    rw[if_neg hw]at h;rw[fG];exact gy ds r _ _ h
theorem IS {P:Program} {ops:Array Oper} {Q:Exit->Act->World->Prop} (ds:List Deferred) {i:Nat} {next next':Act->World->Prop} (hn':∀a w,next a w->next' (over a ds) w) (a:Act) (w:World) (h:wpOp P ops Q i next a w):wpOp P ops (NZ ds Q) i next' (over a ds) w:=by
 unfold wpOp at h ⊢;split
 ·rename_i hn;rw[hn]at h;exact hn' a w h
 ·rename_i o hn
  rw[hn]at h;simp only at h;have ht:(over a ds).tmps=a.tmps:=rfl;rw[ht];split
  ·rename_i hw
   rw[if_pos hw]at h;rcases h with h|⟨h,h'⟩
   ·left
    unfold Oper.wp at *;rw[nE];generalize (execOp a.eval o).run P w=rr at *;unfold Oper.upon at *;split at h
    ·rw[fG];exact hn' _ _ h
    ·rw[fG];exact hn' _ _ h
    ·rename_i d w'
     have:=hn' _ _ h;rw[show({ over a ds with defers:=d::(over a ds).defers }:Act)=over { a with defers:=d::a.defers } ds from rfl,fG];exact this
    ·refine h.mono ?_
     rintro en w' hen
     cases en with
     |returned v=>
      show next' ((over a ds).put o.dst v) w';rw[fG];exact hn' _ _ hen
     |panicked c=>exact⟨a,rfl,hen⟩
     |outgrown=>exact LetsOut.over hen
    ·refine h.mono (fun v w' h=>?_)
     rw[fG];exact hn' _ _ h
    ·exact⟨a,rfl,h⟩
    ·exact h.elim
   ·right
    refine⟨?_,LetsOut.over h'⟩;unfold Oper.asks at *;rw[nE];exact h
  ·rename_i hw
   rw[if_neg hw]at h;rw[fG];exact hn' _ _ h
theorem yo {P:Program} {md:Region.Mode} {ops:Array Oper} {Q:Exit->Act->World->Prop} (ds:List Deferred):∀(fuel:Nat) (listed:Array Bool) (a:Act) (w:World),wpAny P md ops Q fuel listed a w->wpAny P md ops (NZ ds Q) fuel listed (over a ds) w
 |0,_,a,_,h=>⟨h.1,a,rfl,h.2⟩
 |fuel+1,_,a,_,h=>⟨fun hr=>⟨a,rfl,h.1 hr⟩,fun i hi=>IS ds (fun a w h=>yo ds fuel _ a w h) _ _ (h.2 i hi)⟩
section
variable {P:Program} {ty:Nat->Option TI} {n:Nat}
def IQ (P:Program) (n:Nat) (ds:List Deferred) (c:Code) (K:Exit->Env->Heap->Prop) (e:Env) (h:Heap):Prop:=
 ∀g0 w0 g w a,cw g w n a e h->Ext g0 w0 g w->c.wp P (NZ ds (C9 n K g0 w0)) (over a ds) w
theorem jJ (hty:bB P ty) (av:P.follows .mixedOrders=true) (ds:List Deferred):∀(c:Code) (K:Exit->Env->Heap->Prop) (e:Env) (h:Heap),bE n c=true->D7 ty (cU P) (fun _ _ _ _=>False) c K e h->IQ P n ds c K e h
 |.skip,K,e,h,_,hk=>fun g0 w0 g w a s hE=>wp_skip (Q:=NZ ds (C9 n K g0 w0)) ⟨a,rfl,g,e,h,hk,s,hE⟩
 |.region id ops false,K,e,h,hok,hk=>fun g0 w0 g w a s hE=>by
  refine wp_region ?_;rw[List.range_eq_range'];refine gy ds _ _ _ ?_;have:=lV hty (by simpa[bE] using hok) ops.toList 0 e h g w a (fun j=>by simp) hk s hE;simpa using this
 |.region id ops true,K,e,h,hok,hk=>fun g0 w0 g w a s hE=>by
  exact wp_region_any av (yo ds _ _ _ _ (EX hty (by simpa[bE] using hok) hk s hE))
 |.seq x y,K,e,h,hok,hk=>fun g0 w0 g w a s hE=>by
  have hok:bE n x=true/\bE n y=true:=by simpa[bE] using hok
  refine wp_seq (wp_mono (jJ hty av ds x _ e h hok.1 hk g0 w0 g w a s hE) ?_);intro ex a' w' hq
  cases ex with
  |normal=>
   obtain⟨a',rfl,g',e',h',hk',s',hE'⟩:=hq;exact jJ hty av ds y K e' h' hok.2 hk' g0 w0 g' w' a' s' hE'
  |_=>exact hq
 |.cond c x y,K,e,h,hok,hk=>fun g0 w0 g w a s hE=>by
  have hok:bE n x=true/\bE n y=true:=by simpa[bE] using hok
  have hk:(match Go.AM.ev e c with|.p (.b g)=>mq g (D7 ty (cU P) (fun _ _ _ _=>False) x K e h) (D7 ty (cU P) (fun _ _ _ _=>False) y K e h)|_=>ah "cond"):=hk;split at hk
  ·rename_i b hb
   obtain⟨_,r⟩:=s.ev c;rw[hb]at r;refine wp_cond (by rw[nE];exact r.bool) ?_
   cases b with
   |true=>exact jJ hty av ds x K e h hok.1 hk g0 w0 g w a s hE
   |false=>exact jJ hty av ds y K e h hok.2 hk g0 w0 g w a s hE
  ·exact hk.elim
 |.block id c,K,e,h,hok,hk=>fun g0 w0 g w a s hE=>by
  refine wp_block (wp_mono (jJ hty av ds c _ e h (by simpa[bE] using hok) hk g0 w0 g w a s hE) ?_);intro ex a' w' hq
  cases ex with
  |exit i=>
   obtain⟨a',rfl,g',e',h',hk',s',hE'⟩:=hq;simp only[Exit.inBlock]
   by_cases q:i=id
   ·subst q
    rw[if_pos rfl];simp only[mj]at hk';exact⟨a',rfl,g',e',h',hk',s',hE'⟩
   ·rw[if_neg q]
    simp only[beq_false q]at hk';exact⟨a',rfl,g',e',h',hk',s',hE'⟩
  |_=>exact hq
 |.exit id,K,e,h,_,hk=>fun g0 w0 g w a s hE=>wp_exit (Q:=NZ ds (C9 n K g0 w0)) ⟨a,rfl,g,e,h,hk,s,hE⟩
 |.ret,K,e,h,_,hk=>fun g0 w0 g w a s hE=>wp_ret (Q:=NZ ds (C9 n K g0 w0)) ⟨a,rfl,g,e,h,hk,s,hE⟩
 |.loop c,K,e,h,_,hk=>hk.elim
 |.rangeFunc ..,K,e,h,_,hk=>hk.elim
 |.scope _,K,e,h,_,hk=>hk.elim
 |.label _,K,e,h,_,hk=>hk.elim
 |.goto _,K,e,h,_,hk=>hk.elim
 |.refuse _,K,e,h,_,hk=>hk.elim
end
section
variable {P:Program} {ty:Nat->Option TI} {n:Nat}
theorem KI (hty:bB P ty) {fn:Func} {r:AV} {h':Heap} (hr:(r.within (aW (aO h'))&&lR (aW (aO h')) h')=true) {g g1:Gh} {w w':World} {a':Act} {e1:Env} {h1:Heap} (s1:cw g1 w' n a' e1 h1) (hE1:Ext g w g1 w')
 (hq:match mD ty fn.results.toList fn.resultTypes.toList e1 h1 with|some v=>xX v r/\nc h1 h'|none=>False):∃v,(results fn a'.tmps).run P w'=.ok v w'/\
   (∃v1 g',Ending.returned v=.returned v1/\aH g' w' (aE h') (some .ret) v1 r/\gx g' w' h'/\(∀b ow,g'.own b=some ow->b<w'.heap.size)/\Ext g w g' w'):=by
 simp only[Bool.and_eq_true]at hr;obtain⟨hr1,hr2⟩:=hr;split at hq
 ·rename_i x hx
  obtain⟨hq,hheap⟩:=hq;obtain⟨v,hrun,t,hv⟩:=nR (P:=P) hty s1 hx
  have hv:aH g1 w' (aE h1) (some (.slot t)) v r:=by
   rcases hq with rfl|rfl
   ·exact hv
   ·exact hv.copy
  have hdom:∀l,aW (aO h') l=true->aE h' l:=fun l hl=>by
   obtain⟨ob,hob⟩:=dU h' l (jf _ _ hl);unfold aE;rw[hob];rfl
  let g':Gh:={ pre:=g1.pre,own:=fun b=>bR h' t (g1.own b),ρ:=g1.ρ,σ:=g1.σ,sown:=g1.sown }
  have conv:∀{ow:Option bg} {u:Value} {y:AV},(∀q,ow=some q->bR h' t (some q)=some q)->aH g1 w' (aE h1) ow u y->y.within (aW (aO h'))=true->aH g' w' (aE h') ow u y:=by
   intro ow u y hq r0 hin;have r1:=r0.within (dom':=aE h') hdom hin;exact aH.keep (g:=g1) (g':=g') (w:=w') (w':=w') (fun _ _ _ hv=>hv) (fun l hl=>⟨hl,rfl⟩) (fun l cs E _ hb=>⟨cs,E,hb,rfl⟩) (fun q b e1 ho=>⟨by show bR h' t (g1.own b)=some q;rw[ho];exact hq q e1,rfl,rfl⟩) r1
  refine⟨v,hrun,v,g',rfl,?_,⟨fun l ob hl=>?_,fun l ob hl hsl=>?_,fun l ob hl hsl=>?_⟩,fun b q hq=>?_,?_⟩
  ·cases r with
   |so sz xs=>
    cases hv with
    |full _ a _ _ hz hp=>exact .full _ a sz xs hz hp
    |own _ a cap _ _ cs E hz hp ho hpre hb' hs'=>exact .own .ret a cap sz xs cs E hz hp (by show bR h' t (g1.own a.block)=_;rw[ho];simp[bR]) hpre hb' hs'
   |_=>exact(conv (ow:=none) (fun _ q=>by cases q) (hv.bW (fun _ _ q=>by cases q)) hr1).bW (fun _ _ q=>by cases q)
  ·obtain⟨ob0,q1,q2⟩:=eN h' hheap l ob hl
   have hin:=lY h' hr2 l ob hl;have hkl:=eS _ _ _ hl
   cases (s1.heap.obj l ob0 q1).le q2 with
   |cells cs vs' E hb' hlen' hxx h1'=>exact .cells cs vs' E hb' hlen' (fun j u c q3 q4=>conv (fun q e1=>by cases e1;simp[bR,hkl]) (hxx j u c q3 q4) (bZ _ cs (by simpa[bu.within] using hin) j c q4)) h1'
   |arr xs vs' E hb' hlen' hxx h1'=>exact .arr xs vs' E hb' hlen' hxx h1'
   |store T3 o3 sp3 nx3 z3 M3 hst=>exact .store T3 o3 sp3 nx3 z3 M3 (hst.mono (fun _ _ _ q=>q) (fun bb hb2=>⟨by show bR h' t (g1.own bb)=_;rw[hb2];simp[bR,hkl],rfl,rfl⟩) hst.sown)
   |bJ gb gvs hgl=>exact gN.lM hgl (fun h1 _ _=>⟨rfl,by show bR h' t (g1.own gb)=none;rw[h1];rfl⟩)
  ·obtain⟨ob0,q1,q2⟩:=eN h' hheap l ob hl
   show bR h' t (g1.own (g1.ρ l))=_;rw[s1.heap.own l ob0 q1 (q2.dP hsl)];simp[bR,eS _ _ _ hl]
  ·obtain⟨ob0,q1,q2⟩:=eN h' hheap l ob hl
   exact s1.heap.pre l ob0 q1 (q2.dP hsl)
  ·have hq:bR h' t (g1.own b)=some q:=hq
   cases hg:g1.own b with
   |none=>rw[hg]at hq;simp[bR]at hq
   |some q'=>exact s1.bnd b q' hg
  ·exact⟨hE1.size,hE1.os,hE1.out,hE1.bT,fun b hb hn=>⟨(hE1.kept b hb hn).1,(hE1.kept b hb hn).2.1,by show bR h' t (g1.own b)=none;rw[(hE1.kept b hb hn).2.2];rfl⟩,hE1.uC,hE1.frz',hE1.ρk,hE1.siz⟩
 ·exact hq.elim
theorem jh.andThen {c rest:Code} {K:Exit->Env->Heap->Prop} {e:Env} {h:Heap} (hk:jh P n c K e h) {Q:Exit->Act->World->Prop} {g0 g:Gh} {w0 w:World} {a:Act} (s:cw g w n a e h) (hE:Ext g0 w0 g w)
 (hn:∀g' w' a' e' h',K .normal e' h'->cw g' w' n a' e' h'->Ext g0 w0 g' w'->rest.wp P Q a' w') (hx:∀x g' w' a' e' h',x≠.normal->K x e' h'->cw g' w' n a' e' h'->Ext g0 w0 g' w'->Q x a' w'):(Code.seq c rest).wp P Q a w:=by
 refine wp_seq (wp_mono (hk g0 w0 g w a s hE) ?_);rintro x a' w' ⟨g',e',h',hk',s',hE'⟩
 cases x with
 |normal=>exact hn g' w' a' e' h' hk' s' hE'
 |_=>exact hx _ g' w' a' e' h' (by intro q;cases q) hk' s' hE'
theorem cw.QB {g:Gh} {w:World} {a:Act} {e:Env} {h:Heap} (s:cw g w n a e h) {lv ll:List Nat} {vals:List AV} {objs:List bu} (ha:KJ lv ll vals objs e h):cw g w n a (lv.zip vals) (ll.zip objs):=by
 have:=s.mask (lv:=lv) (ll:=ll) ha.1 (by rw[ha.2.1];exact ha.2.2.1) ha.2.2.2;rw[ha.2.1]at this;exact this
theorem IQ.andThen {c rest:Code} {ds:List Deferred} {K:Exit->Env->Heap->Prop} {e:Env} {h:Heap} (hk:IQ P n ds c K e h) {Q:Exit->Act->World->Prop} {g0 g:Gh} {w0 w:World} {a:Act} (s:cw g w n a e h) (hE:Ext g0 w0 g w)
 (hn:∀g' w' a' e' h',K .normal e' h'->cw g' w' n a' e' h'->Ext g0 w0 g' w'->rest.wp P Q (over a' ds) w') (hx:∀x g' w' a' e' h',x≠.normal->K x e' h'->cw g' w' n a' e' h'->Ext g0 w0 g' w'->Q x (over a' ds) w'):(Code.seq c rest).wp P Q (over a ds) w:=by
 refine wp_seq (wp_mono (hk g0 w0 g w a s hE) ?_);rintro x a' w' ⟨a',rfl,hq⟩
 cases x with
 |normal=>
  obtain⟨g',e',h',hk',s',hE'⟩:=hq;exact hn g' w' a' e' h' hk' s' hE'
 |_=>
  obtain⟨g',e',h',hk',s',hE'⟩:=hq;exact hx _ g' w' a' e' h' (by intro q;cases q) hk' s' hE'
theorem IQ.end {c:Code} {ds:List Deferred} {K:Exit->Env->Heap->Prop} {e:Env} {h:Heap} (hk:IQ P n ds c K e h) {Q:Exit->Act->World->Prop} {g0 g:Gh} {w0 w:World} {a:Act} (s:cw g w n a e h) (hE:Ext g0 w0 g w)
 (hx:∀x g' w' a' e' h',K x e' h'->cw g' w' n a' e' h'->Ext g0 w0 g' w'->Q x (over a' ds) w'):c.wp P Q (over a ds) w:=by
 refine wp_mono (hk g0 w0 g w a s hE) ?_;rintro x a' w' ⟨a',rfl,hq⟩
 cases x with
 |_=>
  obtain⟨g',e',h',hk',s',hE'⟩:=hq;exact hx _ g' w' a' e' h' hk' s' hE'
end
end Go.AM
end
section
open Go Go.AM Go.Proofs TK TR
namespace PA
def yw (x:nX×Int×Int):AV:=.cI [.p (iY x.1),.p (.i .i64 x.2.1),.p (.i .i64 x.2.2)]
def hE (ev:Value):Heap:=[(1000000000,.bJ 2 [ev])]
def Ng (ev:Value) (r:AV) (c2:List AV) (c3 c4:AV):Prop:=
 match mD (iX Tryz.prog) Tryz.f23.results.toList Tryz.f23.resultTypes.toList [(2,.ptr 2 0),(3,.ptr 3 0),(4,.ptr 4 0)] [(2,.cells c2),(3,.cells [c3]),(4,.cells [c4]),(1000000000,.bJ 2 [ev])] with
  |some v=>xX v r/\nc [(2,.cells c2),(3,.cells [c3]),(4,.cells [c4]),(1000000000,.bJ 2 [ev])] (hE ev)
  |none=>False
theorem K8 (ev:Value) (pg:nX) (x e:Int):Ng ev (yw (pg,x,e)) (w9 pg) (.p (.i .i64 x)) (.p (.i .i64 e)):=by
 unfold Ng;(conv=>whnf);exact⟨.inl rfl,⟨rfl,rfl⟩,trivial⟩
def jY:AV->Prop
 |.p _=>True
 |.cx=>True
 |_=>False
theorem L6 {g g':Gh} {w w':World} {dom dom':Nat->Prop} {ow ow':Option bg} {v:Value} {x:AV} (hx:jY x) (hi:∀b o v,bT g w b o=some v->bT g' w' b o=some v) (hs:∀s k a,g.σ s k=some a->g'.σ s k=some a) (r:aH g w dom ow v x):aH g' w' dom' ow' v x:=by
 cases r with
 |p _ _ _ h=>exact .p _ _ _ (h.mono hi hs)
 |cx=>exact .cx _
 |_=>exact hx.elim
theorem r8 {g g':Gh} {w w':World} {dom dom':Nat->Prop} {l l':Nat} {cs:List AV} (hf:∀c∈cs,jY c) (hi:∀b o v,bT g w b o=some v->bT g' w' b o=some v) (hs:∀s k a,g.σ s k=some a->g'.σ s k=some a) (hb:w'.heap[g'.ρ l']?=w.heap[g.ρ l]?) (r:gN g w dom l (.cells cs)):gN g' w' dom' l' (.cells cs):=by
 cases r with
 |cells _ vs E h1 h2 h3 h4=>exact .cells _ vs E (hb.trans h1) h2 (fun j v c q1 q2=>L6 (hf c (List.mem_of_getElem? q2)) hi hs (h3 j v c q1 q2)) h4
def AR (ev:Value) (c2:List AV) (c3 c4:AV):List bu:=[.cells c2,.cells [c3],.cells [c4],.bJ 2 [ev]]
def OT:List AV:=[.ptr 2 0,.ptr 3 0,.ptr 4 0]
def NX:List AV:=[.ptr 1000000000 0,.ptr 1000000001 0,.ptr 1000000002 0]
theorem Cv (pg:nX):∀c∈w9 pg,jY c:=by
 intro c hc;simp only[w9,List.mem_cons,List.not_mem_nil,or_false]at hc;rcases hc with rfl|rfl|rfl|rfl|rfl|rfl|rfl|rfl<;>trivial
theorem QY {ev:Value} {g0 g gX:Gh} {w0 w wX:World} {hX:Heap} {tm:Array Value} {c2:List AV} {c3 c4:AV} {r:AV} (hr:(r.within (aW (aO (hE ev)))&&lR (aW (aO (hE ev))) (hE ev))=true)
 (hH:gx g0 w0 (hE ev)) (hE0:Ext g0 w0 g w) (hEX:Ext (g.jQ [2,3,4,1000000000]) w gX wX) (hHX:gx gX wX hX) (q2:aF hX 1000000000=some (.cells c2)) (q3:aF hX 1000000001=some (.cells [c3])) (q4:aF hX 1000000002=some (.cells [c4]))
 (f2:∀c∈c2,jY c) (f3:jY c3) (f4:jY c4) (t2:tm.getD 2 undef=.pointer (some ⟨gX.ρ 1000000000,0,none⟩)) (t3:tm.getD 3 undef=.pointer (some ⟨gX.ρ 1000000001,0,none⟩)) (t4:tm.getD 4 undef=.pointer (some ⟨gX.ρ 1000000002,0,none⟩)) (hend:Ng ev r c2 c3 c4):
 ∃v,(results Tryz.f23 tm).run Tryz.prog wX=.ok v wX/\(∃v1 g',Ending.returned v=.returned v1/\aH g' wX (aE (hE ev)) (some .ret) v1 r/\gx g' wX (hE ev)/\(∀b ow,g'.own b=some ow->b<wX.heap.size)/\Ext g0 w0 g' wX):=by
 have o2:=hHX.own _ _ q2 rfl;have o3:=hHX.own _ _ q3 rfl;have o4:=hHX.own _ _ q4 rfl;have r2:=hHX.obj _ _ q2;have r3:=hHX.obj _ _ q3;have r4:=hHX.obj _ _ q4;have n23:gX.ρ 1000000000≠gX.ρ 1000000001:=fun q=>by rw[q,o3]at o2;cases o2
 have n24:gX.ρ 1000000000≠gX.ρ 1000000002:=fun q=>by rw[q,o4]at o2;cases o2
 have n34:gX.ρ 1000000001≠gX.ρ 1000000002:=fun q=>by rw[q,o4]at o3;cases o3
 have pr2:=hHX.pre _ _ q2 rfl;have pr3:=hHX.pre _ _ q3 rfl;have pr4:=hHX.pre _ _ q4 rfl
 obtain⟨gl1,Eg,frg,gl2⟩:g0.own 2=none/\∃(E:TypeId) (fr:Nat×Nat),w0.heap[2]?=some (.cells #[ev] E fr):=by
  have:=hH.obj 1000000000 _ rfl
  cases this with
  |bJ _ _ h=>exact h
 have hkept:∀b,b<w0.heap.size->g0.own b=none->wX.heap[b]?=w0.heap[b]?/\gX.pre b=g0.pre b:=fun b hb ho=>by
  obtain⟨k1,k2,k3⟩:=hE0.kept b hb ho;obtain⟨k4,k5,_⟩:=hEX.kept b (Nat.lt_of_lt_of_le hb hE0.size) (by show cz _ (g.own b)=none;rw[k3];rfl);exact⟨k4.trans k1,k5.trans k2⟩
 have hk2:=hkept 2 (Array.getElem?_eq_some_iff.1 gl2).1 gl1
 have lt:∀{l:Nat} {cs:List AV},gN gX wX (aE hX) l (.cells cs)->gX.ρ l<wX.heap.size:=fun r=>by
  cases r with
  |cells _ vs E h1 _ _ _=>exact(Array.getElem?_eq_some_iff.1 h1).1
 -- the blocks are not there at the start
 have hnew:∀b,b<w0.heap.size->g0.own b=none->b≠gX.ρ 1000000000/\b≠gX.ρ 1000000001/\b≠gX.ρ 1000000002:=fun b hb ho=>by
  obtain⟨k1,k2,k3⟩:=hE0.kept b hb ho;obtain⟨k4,k5,k6⟩:=hEX.kept b (Nat.lt_of_lt_of_le hb hE0.size) (by show cz _ (g.own b)=none;rw[k3];rfl);refine⟨fun q=>?_,fun q=>?_,fun q=>?_⟩
  ·rw[q,o2]at k6;cases k6
  ·rw[q,o3]at k6;cases k6
  ·rw[q,o4]at k6;cases k6
 let gF:Gh:={ pre:=gX.pre,own:=fun b=>if b=gX.ρ 1000000000 then some (.obj 2) else if b=gX.ρ 1000000001 then some (.obj 3) else if b=gX.ρ 1000000002 then some (.obj 4) else none,
              ρ:=fun l=>if l=2 then gX.ρ 1000000000 else if l=3 then gX.ρ 1000000001 else if l=4 then gX.ρ 1000000002 else g0.ρ l,σ:=gX.σ,sown:=g0.sown }
 have e2:gF.ρ 2=gX.ρ 1000000000:=rfl;have e3:gF.ρ 3=gX.ρ 1000000001:=rfl;have e4:gF.ρ 4=gX.ρ 1000000002:=rfl;have hsame:∀b o v,bT gX wX b o=some v->bT gF wX b o=some v:=fun _ _ _ h=>h
 have hF:Ext g0 w0 gF wX:=by
  refine⟨Nat.le_trans hE0.size hEX.size,hEX.os.trans hE0.os,hEX.out.trans hE0.out,fun b o v hv=>hEX.bT b o v (hE0.bT b o v hv),fun b hb ho=>?_,⟨fun s k a q=>hEX.uC.1 s k a (hE0.uC.1 s k a q),rfl,fun s q k=>(hEX.uC.2.2 s (by show tA _ (g.sown s)=none;rw[hE0.uC.2.1,q];rfl) k).trans (hE0.uC.2.2 s q k)⟩,fun a ha=>?_,fun l hl=>?_,fun b cs E hb=>?_⟩
  ·obtain⟨k1,k2⟩:=hkept b hb ho
   obtain⟨k3,k4,k5⟩:=hnew b hb ho;refine⟨k1,k2,?_⟩;show(if b=gX.ρ 1000000000 then some (bg.obj 2) else if b=gX.ρ 1000000001 then some (.obj 3) else if b=gX.ρ 1000000002 then some (.obj 4) else none)=none;rw[if_neg k3,if_neg k4,if_neg k5]
  ·rw[hEX.frz' a (Nat.lt_of_lt_of_le ha hE0.size)];exact hE0.frz' a ha
  ·have hl:1000000000<=l:=hl
   show(if l=2 then _ else if l=3 then _ else if l=4 then _ else g0.ρ l)=g0.ρ l;rw[if_neg (by omega),if_neg (by omega),if_neg (by omega)]
  ·obtain⟨cs1,E1,k1,k2⟩:=hE0.siz b cs E hb
   obtain⟨cs2,E2,k3,k4⟩:=hEX.siz b cs1 E1 k1;exact⟨cs2,E2,k3,k4.trans k2⟩
 have f3':∀c∈[c3],jY c:=fun c hc=>by rw[List.mem_singleton]at hc;subst hc;exact f3
 have f4':∀c∈[c4],jY c:=fun c hc=>by rw[List.mem_singleton]at hc;subst hc;exact f4
 have hcase:∀l o,aF [(2,.cells c2),(3,.cells [c3]),(4,.cells [c4]),(1000000000,.bJ 2 [ev])] l=some o->(l=2/\o=.cells c2)\/(l=3/\o=.cells [c3])\/(l=4/\o=.cells [c4])\/(l=1000000000/\o=.bJ 2 [ev]):=by
  intro l o h
  by_cases h2:2=l
  ·subst h2;rw[aQ]at h;cases h;exact .inl ⟨rfl,rfl⟩
  rw[aT h2]at h
  by_cases h3:3=l
  ·subst h3;rw[aQ]at h;cases h;exact .inr (.inl ⟨rfl,rfl⟩)
  rw[aT h3]at h
  by_cases h4:4=l
  ·subst h4;rw[aQ]at h;cases h;exact .inr (.inr (.inl ⟨rfl,rfl⟩))
  rw[aT h4]at h
  by_cases h5:1000000000=l
  ·subst h5;rw[aQ]at h;cases h;exact .inr (.inr (.inr ⟨rfl,rfl⟩))
  rw[aT h5]at h;cases h
 have sF:cw gF wX tm.size ⟨tm,[]⟩ [(2,.ptr 2 0),(3,.ptr 3 0),(4,.ptr 4 0)] [(2,.cells c2),(3,.cells [c3]),(4,.cells [c4]),(1000000000,.bJ 2 [ev])]:=by
  refine⟨rfl,rfl,fun i=>?_,⟨fun l o h=>?_,fun l o h hs=>?_,fun l o h hs=>?_⟩,fun b o h=>?_⟩
  ·by_cases h2:2=i
   ·subst h2;show aH _ _ _ _ (tm.getD 2 undef) _;rw[t2,bA,<-e2];exact .ptr _ _ _ rfl
   by_cases h3:3=i
   ·subst h3;show aH _ _ _ _ (tm.getD 3 undef) _;rw[t3,<-e3];exact .ptr _ _ _ rfl
   by_cases h4:4=i
   ·subst h4;show aH _ _ _ _ (tm.getD 4 undef) _;rw[t4,<-e4];exact .ptr _ _ _ rfl
   rw[bO h2,bO h3,bO h4];exact .top _ _
  ·rcases hcase l o h with⟨rfl,rfl⟩|⟨rfl,rfl⟩|⟨rfl,rfl⟩|⟨rfl,rfl⟩
   ·exact r8 f2 hsame (fun _ _ _ q=>q) rfl r2
   ·exact r8 f3' hsame (fun _ _ _ q=>q) rfl r3
   ·exact r8 f4' hsame (fun _ _ _ q=>q) rfl r4
   ·refine .bJ _ _ ⟨?_,Eg,frg,hk2.1.trans gl2⟩
    have:=hnew 2 (Array.getElem?_eq_some_iff.1 gl2).1 gl1;show(if 2=gX.ρ 1000000000 then some (bg.obj 2) else if 2=gX.ρ 1000000001 then some (.obj 3) else if 2=gX.ρ 1000000002 then some (.obj 4) else none)=none;rw[if_neg this.1,if_neg this.2.1,if_neg this.2.2]
  ·rcases hcase l o h with⟨rfl,rfl⟩|⟨rfl,rfl⟩|⟨rfl,rfl⟩|⟨rfl,rfl⟩
   ·show(if gX.ρ 1000000000=gX.ρ 1000000000 then some (bg.obj 2) else _)=_
    rw[if_pos rfl]
   ·show(if gX.ρ 1000000001=gX.ρ 1000000000 then some (bg.obj 2) else if gX.ρ 1000000001=gX.ρ 1000000001 then some (.obj 3) else _)=_
    rw[if_neg (Ne.symm n23),if_pos rfl]
   ·show(if gX.ρ 1000000002=gX.ρ 1000000000 then some (bg.obj 2) else if gX.ρ 1000000002=gX.ρ 1000000001 then some (.obj 3) else if gX.ρ 1000000002=gX.ρ 1000000002 then some (.obj 4) else _)=_
    rw[if_neg (Ne.symm n24),if_neg (Ne.symm n34),if_pos rfl]
   ·cases hs
  ·rcases hcase l o h with⟨rfl,rfl⟩|⟨rfl,rfl⟩|⟨rfl,rfl⟩|⟨rfl,rfl⟩
   ·exact pr2
   ·exact pr3
   ·exact pr4
   ·cases hs
  ·have h:(if b=gX.ρ 1000000000 then some (bg.obj 2) else if b=gX.ρ 1000000001 then some (.obj 3) else if b=gX.ρ 1000000002 then some (.obj 4) else none)=some o:=h
   by_cases k2:b=gX.ρ 1000000000
   ·rw[k2];exact lt r2
   by_cases k3:b=gX.ρ 1000000001
   ·rw[k3];exact lt r3
   by_cases k4:b=gX.ρ 1000000002
   ·rw[k4];exact lt r4
   rw[if_neg k2,if_neg k3,if_neg k4]at h;cases h
 exact KI (aG Tryz.prog) (fn:=Tryz.f23) hr sF hF hend
end PA
end
section
namespace Go.AM
def dI (o:Oper) (v:AV):Option eB:=match o.dst with
 |some d=>some ⟨[],[(d,v)],[]⟩
 |none=>some ⟨[],[],[]⟩
def Ip (o:Oper) (rd:List Nat) (hw:Heap) (v:AV):Option eB:=match o.dst with
 |some d=>some ⟨rd,[(d,v)],hw⟩
 |none=>some ⟨rd,[],hw⟩
def uq (o:Oper) (l:Nat) (v:AV):Option eB:=match o.dst with
 |some d=>some ⟨[l],[(d,v)],[]⟩
 |none=>some ⟨[l],[],[]⟩
def MH (xs:List PV) (i:Int):Option PV:=match i with
 |.ofNat n=>xs[n]?
 |.negSucc _=>none
def O3:ByteArray->Int->Option PV
 |⟨⟨l⟩⟩,.ofNat n=>match l[n]? with
  |some c=>some (.i .u8 c.toNat)
  |none=>none
 |_,_=>none
def Lq:List UInt8->List UInt8->Bool
 | [],[]=>true
 |a::r,b::r'=>match Nat.beq a.toNat b.toNat with
  |true=>Lq r r'
  |false=>false
 |_,_=>false
def L0 (op:BinOp) (x y:ByteArray):Option PV:=match op,x,y with
 |.eql,⟨⟨a⟩⟩,⟨⟨b⟩⟩=>some (.b (Lq a b))
 |.neq,⟨⟨a⟩⟩,⟨⟨b⟩⟩=>some (.b (!Lq a b))
 |_,_,_=>none
def PY (s:ByteArray) (i j:Nat):ByteArray:=match s with
 |⟨⟨l⟩⟩=>⟨⟨(l.drop i).take (j-i)⟩⟩
def QA:List PV->Option (List Int)
 | []=>some []
 |.i .u8 n::r=>match QA r with|some l=>some (n::l)|none=>none
 |_::_=>none
def GM (xs:List PV):Option PV:=match QA xs with
 |some ns=>some (.s (ju ns))
 |none=>none
def kz (c:Bool) (X:Option eB):Option eB:=match c with|true=>X|false=>none
section
variable (ty:Nat->Option TI) (call:Nat->List AV->Heap->Option (List Nat×Heap×AV))
def HK (o:Oper) (e:Env) (t:Nat) (mv:Nat->Bool):Option eB:=
 match aL e t with
 |.so sz xs=>match o.dst with
  |some d=>match mv d with
   |true=>some ⟨[],[(d,.so sz xs),(t,.p (.sl sz xs))],[]⟩
   |false=>some ⟨[],[(d,.p (.sl sz xs))],[]⟩
  |none=>none
 |v=>dI o v
def J4 (o:Oper) (h:Heap) (t:Nat) (a:AV) (mv:Nat->Bool):Option eB:=
 match ty t with
 |some i=>match a with
  |.ptr l off=>match aF h l with
   |some (.cells cs)=>match dA i.desc with
    |true=>match jy cs off i.size with
     |some l1=>uq o l (qH l1 i.csz)
     |none=>none
    |false=>match cs[off]? with
     |some (.so sz xs)=>match o.dst with
      |some d=>match mv d with
       |true=>match setAt cs off [.p (.sl sz xs)] with
        |some cs'=>some ⟨[l],[(d,.so sz xs)],[(l,.cells cs')]⟩
        |none=>none
       |false=>some ⟨[l],[(d,.p (.sl sz xs))],[]⟩
      |none=>none
     |some v=>uq o l v
     |none=>none
   |_=>none
  |.vp cs=>match dA i.desc with
   |true=>match jy cs 0 i.size with
    |some l1=>dI o (.p (.agg l1))
    |none=>none
   |false=>match cs with
    |v::_=>dI o (.p v)
    | []=>none
  |.ap l n=>match aF h l with
   |some (.arr xs)=>match dA i.desc with
    |true=>none
    |false=>(match MH xs n with|some v=>uq o l (.p v)|none=>none)
   |_=>none
  |_=>none
 |none=>none
def GB (e:Env) (h:Heap) (t:Nat) (a:AV) (y:Operand):Option eB:=
 match ty t with
 |some i=>match a with
  |.ptr l off=>match aF h l with
   |some (.cells cs)=>match ev e y,y with
    |.so sz xs,.tmp s=>match setAt cs off [.so sz xs] with
     |some cs'=>match Nat.beq i.size 1 with
      |true=>some ⟨[l],[(s,.p (.sl sz xs))],[(l,.cells cs')]⟩
      |false=>none
     |none=>none
    |v,_=>match v.cells? with
     |some ys=>match Nat.beq ys.length i.size,setAt cs off ys with
      |true,some cs'=>some ⟨[l],[],[(l,.cells cs')]⟩
      |_,_=>none
     |none=>none
   |_=>none
  |.ap l n=>match aF h l with
   |some (.arr xs)=>match ev e y,Nat.beq i.size 1 with
    |.p (.i k m),true=>kz (decide (n<xs.length)) (some ⟨[l],[],[(l,.arr (xs.set n (.i k m)))]⟩)
    |.p (.b m),true=>kz (decide (n<xs.length)) (some ⟨[l],[],[(l,.arr (xs.set n (.b m)))]⟩)
    |.p (.s m),true=>kz (decide (n<xs.length)) (some ⟨[l],[],[(l,.arr (xs.set n (.s m)))]⟩)
    |_,_=>none
   |_=>none
  |_=>none
 |none=>none
def GJ (o:Oper) (e:Env) (t:Nat) (parts:List (Nat×Operand)):Option eB:=
 match ty t with
 |some i=>match i.desc with
  |.struct _=>match place (fun f=>match gM ty t f with|some x=>(match ty x.type with|some j=>some (x.offset,j.size)|none=>none)|none=>none) (dx i.zero) (gJ e parts) with
   |some cs=>dI o (sP cs i.csz)
   |none=>none
  |.array _ el=>match ty el with
   |some j=>match place (fun k=>some (k*j.size,j.size)) (dx i.zero) (gJ e parts) with
    |some cs=>dI o (sP cs i.csz)
    |none=>none
   |none=>none
  |_=>none
 |none=>none
def pQ (o:Oper) (e:Env) (h:Heap) (t len:Nat) (parts:List (Nat×Operand)):Option eB:=
 match ty t with
 |some i=>match i.desc with
  |.slice el=>match ty el with
   |some j=>match iV j.size j.csz e 0 parts with
    |some xs=>match Nat.beq xs.length len,Nat.ble (len*j.size) 16777216,Nat.beq j.size 0 with
     |true,true,false=>match o.dst with
      |some d=>some ⟨[],[(d,.so j.size xs)],[]⟩
      |none=>some ⟨[],[],[]⟩
     |_,_,_=>none
    |none=>none
   |none=>none
  |_=>none
 |none=>none
def Rg (o:Oper) (op:UnOp) (x:AV):Option eB:=match op,x with
 |.not,.p (.b a)=>dI o (.p (.b (!a)))
 |.neg,.p (.i k a)=>dI o (.p (.i k (k.wrap (0-a))))
 |_,_=>none
def OY (o:Oper) (op:BinOp) (t:Nat) (x y:AV):Option eB:=
 match x,y with
 |.p (.i k a),.p (.i k' b)=>match op with
  |.rem=>kz (decide (k=k'/\b≠0)) (dI o (.p (.i k (a.tmod b))))
  |.quo=>kz (decide (k=k'/\b≠0)) (dI o (.p (.i k (k.wrap (a.tdiv b)))))
  |op=>match Oa op k a b with
   |some v=>match decide (k=k') with
    |true=>dI o (.p v)
    |false=>none
   |none=>none
 |.p (.s a),.p (.s b)=>match op with
  |.add=>kz (decide (a.size+b.size<=9223372036854775807)) (dI o (.p (.s (a++b))))
  |op=>match L0 op a b with
   |some v=>dI o (.p v)
   |none=>none
 |x,.cx=>match G8 x,eF ty t,op with
  |some b,true,.eql=>dI o (.p (.b b))
  |some b,true,.neq=>dI o (.p (.b (!b)))
  |_,_,_=>none
 |.p (.b a),.p (.b b)=>match op,tC ty t with
  |.eql,true=>dI o (.p (.b (a==b)))
  |.neq,true=>dI o (.p (.b (!(a==b))))
  |_,_=>none
 |.p (.agg xs),.p (.agg ys)=>match ty t with
  |some i=>match i.eqs with
   |kd::ks=>match iM (kd::ks) xs ys,op with
    |some q,.eql=>dI o (.p (.b q))
    |some q,.neq=>dI o (.p (.b (!q)))
    |_,_=>none
   | []=>none
  |none=>none
 |_,_=>none
def FC (o:Oper) (t:Nat) (x ix:AV):Option eB:=match ty t with
 |some i=>match i.desc,x,ix with
  |.string,.p (.s s),.p (.i _ m)=>(match O3 s m with|some v=>dI o (.p v)|none=>none)
  |_,_,_=>none
 |none=>none
def sU (o:Oper) (t:Nat) (x ix:AV) (h:Heap):Option eB:=
 match ty t with
 |some i=>match i.desc with
  |.slice el=>match ty el with
   |some j=>match x,ix with
    |.p (.sl sz xs),.p (.i _ n)=>match Nat.beq sz j.size with
     |true=>(match MH xs n with|some v=>dI o (.vp v.cells)|none=>none)
     |false=>none
    |.ar l,.p (.i _ n)=>match aF h l with
     |some (.arr xs)=>match Nat.beq j.size 1 with
      |true=>kz (decide (0<=n/\n.toNat<xs.length)) (uq o l (.ap l n.toNat))
      |false=>none
     |some (.cells cs)=>match Nat.beq j.size 1 with
      |true=>kz (decide (0<=n/\n.toNat<cs.length)) (uq o l (.ptr l n.toNat))
      |false=>none
     |_=>none
    |_,_=>none
   |none=>none
  |.array len el=>match ty el with
   |some j=>match x,ix with
    |.vp cs,.p (.i _ m)=>kz (decide (0<=m/\m<len)) (dI o (.vp (cs.drop (m.toNat*j.size))))
    |.ptr l off,.p (.i _ m)=>kz (decide (0<=m/\m<len)) (dI o (.ptr l (off+m.toNat*j.size)))
    |_,_=>none
   |none=>none
  |_=>none
 |none=>none
def OP (o:Oper) (t:Nat) (x:AV) (h:Heap):Option eB:=
 match ty t with
 |some i=>match i.desc with
  |.slice _=>match x with
   |.p (.sl _ xs)=>dI o (.p (.i .i64 xs.length))
   |.so _ xs=>dI o (.p (.i .i64 xs.length))
   |.cx=>dI o (.p (.i .i64 0))
   |.es _=>dI o (.p (.i .i64 0))
   |.ar l=>match aF h l with
    |some (.arr xs)=>uq o l (.p (.i .i64 xs.length))
    |some (.cells cs)=>uq o l (.p (.i .i64 cs.length))
    |_=>none
   |_=>none
  |.string=>match x with
   |.p (.s x)=>dI o (.p (.i .i64 x.size))
   |_=>none
  |_=>none
 |none=>none
def CV (o:Oper) (e:Env) (h:Heap) (t t2:Nat) (x:Operand) (y:AV):Option eB:=
 match ty t,eF ty t2 with
 |some i,true=>match i.desc with
  |.slice el=>match ty el with
   |some j=>match Nat.beq (j.size*j.bytes) 0,NI j.size y,o.dst with
    |false,some ys,some d=>match ev e x,x with
     |.cx,_=>kz (decide (ys.length*j.bytes<=140737488355328)) (some ⟨[],[(d,.so j.size ys)],[]⟩)
     |.so sz xs,.tmp s=>match Nat.beq sz j.size,Nat.beq s d with
      |true,false=>kz (decide ((xs.length+ys.length)*j.bytes<=140737488355328)) (some ⟨[],[(d,.so sz (xs++ys)),(s,.p (.sl sz xs))],[]⟩)
      |_,_=>none
     |_,_=>none
    |_,_,_=>none
   |none=>none
  |_=>none
 |_,_=>none
def yJ (o:Oper) (e:Env) (t:Nat) (x:AV) (lo hi:Option Operand):Option eB:=
 match ty t with
 |some i=>match i.desc with
  |.slice el=>match ty el,x with
   |some j,.p (.sl sz xs)=>match Nat.beq sz j.size,fZ e 0 lo,fZ e xs.length hi with
    |true,some l,some u=>kz (decide (0<=l/\l<=u/\u<=xs.length)) (dI o (.p (.sl sz ((xs.take u.toNat).drop l.toNat))))
    |_,_,_=>none
   |_,_=>none
  |.string=>match x with
   |.p (.s s)=>match fZ e 0 lo,fZ e s.size hi with
    |some l,some u=>kz (decide (0<=l/\l<=u/\u<=s.size)) (dI o (.p (.s (PY s l.toNat u.toNat))))
    |_,_=>none
   |_=>none
  |_=>none
 |none=>none
def B4 (o:Oper) (e:Env) (t s sz:Nat) (xs:List PV) (lo:Option Operand):Option eB:=
 match ty t,o.dst with
 |some i,some d=>match i.desc with
  |.slice el=>match ty el with
   |some j=>match Nat.beq sz j.size,Nat.beq s d,fZ e 0 lo with
    |true,false,some l=>kz (decide (0<=l/\l<=xs.length)) (some ⟨[],[(d,.so sz (xs.drop l.toNat)),(s,.p (.sl sz xs))],[]⟩)
    |_,_,_=>none
   |none=>none
  |_=>none
 |_,_=>none
def Gr (o:Oper) (si i:TI) (v:AV):Option eB:=match si.desc,i.desc,v.mM 1 with
 |.slice el,.string,some (.sl sz xs)=>match Nat.beq sz 1,ty el with
  |true,some j=>match j.desc with
   |.int .u8=>(match GM xs with|some y=>dI o (.p y)|none=>none)
   |_=>none
  |_,_=>none
 |_,_,_=>none
def Ot (mv:Nat->Bool) (o:Oper) (e:Env) (h:Heap):Option eB:=
 match o.op with
 |.move (.tmp t)=>HK o e t mv
 |.move x=>dI o (ev e x)
 |.assign (.tmp t)=>HK o e t (fun _=>true)
 |.assign x=>dI o (ev e x)
 |.pick c a b=>match ev e c with
  |.p (.b g)=>(match g with|true=>dI o (ev e a).copy|false=>dI o (ev e b).copy)
  |_=>none
 |.alloc t=>match ty t,o.dst with
  |some i,some d=>match fq h d with
   |true=>some ⟨[],[(d,.ptr d 0)],[(d,.cells (dx i.zero))]⟩
   |false=>none
  |_,_=>none
 |.box _ x=>match o.dst with
  |some d=>match fq h d with
   |true=>match (ev e x).copy.cells? with
    |some cs=>some ⟨[],[(d,.ptr d 0)],[(d,.cells cs)]⟩
    |none=>none
   |false=>none
  |_=>none
 |.build t ⟨parts⟩=>GJ ty o e t parts
 |.buildSlice t len ⟨parts⟩=>pQ ty o e h t len parts
 |.load t x=>J4 ty o h t (ev e x) mv
 |.store t x y=>GB ty e h t (ev e x) y
 |.nilCheck x=>match ev e x with
  |.ptr l off=>dI o (.ptr l off)
  |.vp cs=>dI o (.vp cs)
  |.fn f a b=>dI o (.fn f a b)
  |_=>none
 |.binOp op t x (.const .nilIface) _=>match ev e x with
  |.wM b=>match gE ty t,op with
   |true,.eql=>dI o (.p (.b (!b)))
   |true,.neq=>dI o (.p (.b b))
   |_,_=>none
  |_=>none
 |.binOp op t x y _=>OY ty o op t (ev e x) (ev e y)
 |.unOp op _ x=>Rg o op (ev e x)
 |.convert src dst x=>match ty src,ty dst,ev e x with
  |some _,some i,.p (.i _ n)=>match i.desc with
   |.int k=>dI o (.p (.i k (k.wrap n)))
   |_=>none
  |some _,some i,.p (.s x)=>match i.desc with
   |.string=>dI o (.p (.s x))
   |_=>none
  |some si,some i,v=>Gr ty o si i v
  |_,_,_=>none
 |.makeFunc (.func f) ⟨first⟩ ⟨caps⟩=>dI o (.fn f (Hs e first) (Hs e caps))
 |.slice t (.tmp s) lo none none=>match aL e s with
  |.so sz xs=>B4 ty o e t s sz xs lo
  |v=>yJ ty o e t v.copy lo none
 |.slice t (.tmp s) none (some u) none=>match aL e s with
  |.ar l=>none
  |v=>yJ ty o e t v.copy none (some u)
 |.slice t x lo hi none=>yJ ty o e t (ev e x).copy lo hi
 |.fieldAddr s x f=>match gM ty s f with
  |some fd=>match ty fd.type with
   |some j=>match Nat.beq j.size 0,ev e x with
    |false,.ptr l off=>dI o (.ptr l (off+fd.offset))
    |false,.vp cs=>dI o (.vp (cs.drop fd.offset))
    |_,_=>none
   |none=>none
  |none=>none
 |.field t x f=>match gM ty t f with
  |some fd=>match ty fd.type with
   |some j=>match (ev e x).lH with
    |some cs=>match dA j.desc with
     |true=>match jy cs fd.offset j.size with
      |some l=>dI o (qH l j.csz)
      |none=>none
     |false=>match cs[fd.offset]? with
      |some v=>dI o v.copy
      |none=>none
    |none=>none
   |none=>none
  |none=>none
 |.indexAddr t x ix=>sU ty o t (ev e x).copy (ev e ix) h
 |.extract x n=>match ev e x with
  |.cI vs=>match vs[n]? with
   |some v=>dI o v.copy
   |none=>none
  |_=>none
 |.call { callee:=.builtin .len,args:=⟨[x]⟩,argTypes:=⟨t::_⟩ }=>OP ty o t (ev e x) h
 |.call { callee:=.builtin .append,args:=⟨[x,y]⟩,argTypes:=⟨[t,t2]⟩ }=>CV ty o e h t t2 x (ev e y)
 |.call { callee:=.builtin .min,args:=⟨[x,y]⟩,.. }=>match ev e x,ev e y with
  |.p (.i k a),.p (.i k' b)=>match decide (k=k') with
   |true=>dI o (.p (.i k (if b<a then b else a)))
   |false=>none
  |_,_=>none
 |.call { callee:=.builtin .max,args:=⟨[x,y]⟩,.. }=>match ev e x,ev e y with
  |.p (.i k a),.p (.i k' b)=>match decide (k=k') with
   |true=>dI o (.p (.i k (if a<b then b else a)))
   |false=>none
  |_,_=>none
 |.call { callee:=.builtin .max,args:=⟨[x,y,z]⟩,.. }=>match ev e x,ev e y,ev e z with
  |.p (.i k a),.p (.i k' b),.p (.i k2 c)=>match decide (k=k'),decide (k=k2) with
   |true,true=>dI o (.p (.i k (imax (imax a b) c)))
   |_,_=>none
  |_,_,_=>none
 |.call { callee:=.value x,args:=⟨az⟩,argTypes:=⟨ts⟩ }=>match ev e x with
  |.fn f first caps=>(match call f (first++gO ty e az ts++caps) h with|some (rd,hw,r)=>Ip o rd hw r|none=>none)
  |_=>none
 |.call { callee:=.invoke x name,args:=⟨az⟩,argTypes:=⟨ts⟩ }=>match ev e x with
  |.p (.uY T y)=>match Cd ty T name with
   |some f=>(match call f ([.p y]++gO ty e az ts++[]) h with|some (rd,hw,r)=>Ip o rd hw r|none=>none)
   |none=>none
  |_=>none
 |.makeSlice t a b=>none
 |.index t x ix=>FC ty o t (ev e x) (ev e ix)
 |_=>none
end
theorem aD {o:Oper} {v:AV} {f:eB} {K:AK} (h:dI o v=some f) (hk:K f):ret o v K:=by
 unfold dI at h;unfold ret;split at h<;>cases h<;>simp_all [AV.force_eq]
theorem JT {o:Oper} {rd:List Nat} {hw:Heap} {v:AV} {f:eB} {K:AK} (h:Ip o rd hw v=some f) (hk:K f):Ao o rd hw v K:=by
 unfold Ip at h;unfold Ao;split at h<;>cases h<;>simp_all [AV.force_eq]
theorem br {o:Oper} {l:Nat} {v:AV} {f:eB} {K:AK} (h:uq o l v=some f) (hk:K f):pL o l v K:=by
 unfold uq at h;unfold pL;split at h<;>cases h<;>simp_all [AV.force_eq]
theorem aC {c:Prop} [Decidable c] {X:Option eB} {f:eB} (h:kz (decide c) X=some f):c/\X=some f:=by
 unfold kz at h;split at h
 ·rename_i hd;exact⟨of_decide_eq_true hd,h⟩
 ·cases h
theorem cy {xs:List PV} {i:Int} {v:PV} {K:PV->Prop} (h:MH xs i=some v) (hk:K v):Ct xs i K:=by
 unfold MH at h;split at h
 ·exact⟨v,Int.natCast_nonneg _,h,hk⟩
 ·cases h
theorem gi {s:ByteArray} {m:Int} {v:PV} {K:PV->Prop} (h:O3 s m=some v) (hk:K v):LY s m K:=by
 unfold O3 at h;split at h
 ·rename_i l n
  split at h
  ·rename_i c hc;cases h;exact P9 (l:=l) (k:=n) rfl hc hk
  ·cases h
 ·cases h
theorem CD:∀(a b:List UInt8),Lq a b=(a==b)
 | [],[]=>rfl
 | [],_::_=>rfl
 |_::_,[]=>rfl
 |a::r,b::r'=>by
  rw[Lq,List.cons_beq_cons,<-CD r r']
  cases h:Nat.beq a.toNat b.toNat with
  |true=>
   have:a=b:=UInt8.toNat_inj.1 (Nat.eq_of_beq_eq_true h);subst this;simp
  |false=>
   have:(a==b)=false:=by rw[beq_eq_false_iff_ne];intro q;subst q;simp at h
   rw[this];rfl
theorem eH {op:BinOp} {x y:ByteArray} {v:PV} (h:L0 op x y=some v):OJ op x y=some v:=by
 unfold L0 at h;split at h
 ·rename_i a b;cases h;rw[CD,<-tR];rfl
 ·rename_i a b;cases h;rw[CD,<-tR];rfl
 ·cases h
theorem Nf (s:ByteArray) (i j:Nat):PY s i j=s.extract i j:=by
 obtain⟨⟨l⟩⟩:=s;exact(Km l i j).symm
theorem LV:∀{xs:List PV} {ns:List Int},QA xs=some ns->xs=ns.map (PV.i .u8)
 | [],_,h=>by cases h;rfl
 |x::r,ns,h=>by
  unfold QA at h;split at h
  ·cases ‹_::_=[]›
  ·rename_i n r' he
   cases he;split at h
   ·rename_i l hl
    cases h;rw[LV hl];rfl
   ·cases h
  ·cases h
theorem dM {xs:List PV} {v:PV} {K:PV->Prop} (h:GM xs=some v) (hk:K v):KN xs K:=by
 unfold GM at h;split at h
 ·rename_i ns hn;cases h;exact⟨ns,_,LV hn,rfl,hk⟩
 ·cases h
section
variable {ty:Nat->Option TI} {f:eB} {K:AK}
theorem LW {o:Oper} {e:Env} {t:Nat} {mv:Nat->Bool} (hx:HK o e t mv=some f) (hk:K f):A1 o e t mv K:=by
 unfold HK at hx;unfold A1
 repeat' split at hx
 all_goals (try (cases hx;done))
 all_goals (try simp only[*])
 all_goals first|exact hk|(cases hx;exact hk)|exact aD hx hk|exact br hx hk|exact⟨(aC hx).1,aD (aC hx).2 hk⟩|exact⟨(aC hx).1,br (aC hx).2 hk⟩|(have h2:=(aC hx).2;cases h2;exact⟨(aC hx).1,hk⟩)|exact cy (by assumption) (aD hx hk)|exact cy (by assumption) (br hx hk)|exact gi (by assumption) (aD hx hk)|exact dM (by assumption) (aD hx hk)|(rename_i l1 he;erw [he];exact aD hx hk)|(rename_i v he;erw [eH he];exact aD hx hk)
theorem LN {o:Oper} {h:Heap} {t:Nat} {a:AV} {mv:Nat->Bool} (hx:J4 ty o h t a mv=some f) (hk:K f):Dz ty o h t a mv K:=by
 unfold J4 at hx;unfold Dz
 repeat' split at hx
 all_goals (try (cases hx;done))
 all_goals (try simp only[*])
 all_goals first|exact hk|(cases hx;exact hk)|exact aD hx hk|exact br hx hk|exact⟨(aC hx).1,aD (aC hx).2 hk⟩|exact⟨(aC hx).1,br (aC hx).2 hk⟩|(have h2:=(aC hx).2;cases h2;exact⟨(aC hx).1,hk⟩)|exact cy (by assumption) (aD hx hk)|exact cy (by assumption) (br hx hk)|exact gi (by assumption) (aD hx hk)|exact dM (by assumption) (aD hx hk)|(rename_i l1 he;erw [he];exact aD hx hk)|(rename_i v he;erw [eH he];exact aD hx hk)
theorem Jt {e:Env} {h:Heap} {t:Nat} {a:AV} {y:Operand} (hx:GB ty e h t a y=some f) (hk:K f):y7 ty e h t a y K:=by
 unfold GB at hx;unfold y7
 repeat' split at hx
 all_goals (try (cases hx;done))
 all_goals (try simp only[*])
 all_goals first|exact hk|(cases hx;exact hk)|exact aD hx hk|exact br hx hk|exact⟨(aC hx).1,aD (aC hx).2 hk⟩|exact⟨(aC hx).1,br (aC hx).2 hk⟩|(have h2:=(aC hx).2;cases h2;exact⟨(aC hx).1,hk⟩)|exact cy (by assumption) (aD hx hk)|exact cy (by assumption) (br hx hk)|exact gi (by assumption) (aD hx hk)|exact dM (by assumption) (aD hx hk)|(rename_i l1 he;erw [he];exact aD hx hk)|(rename_i v he;erw [eH he];exact aD hx hk)
theorem I4 {o:Oper} {e:Env} {t:Nat} {parts:List (Nat×Operand)} (hx:GJ ty o e t parts=some f) (hk:K f):zU ty o e t parts K:=by
 unfold GJ at hx;unfold zU
 repeat' split at hx
 all_goals (try (cases hx;done))
 all_goals (try simp only[*])
 all_goals first|exact hk|(cases hx;exact hk)|exact aD hx hk|exact br hx hk|exact⟨(aC hx).1,aD (aC hx).2 hk⟩|exact⟨(aC hx).1,br (aC hx).2 hk⟩|(have h2:=(aC hx).2;cases h2;exact⟨(aC hx).1,hk⟩)|exact cy (by assumption) (aD hx hk)|exact cy (by assumption) (br hx hk)|exact gi (by assumption) (aD hx hk)|exact dM (by assumption) (aD hx hk)|(rename_i l1 he;erw [he];exact aD hx hk)|(rename_i v he;erw [eH he];exact aD hx hk)
theorem zD {o:Oper} {e:Env} {h:Heap} {t len:Nat} {parts:List (Nat×Operand)} (hx:pQ ty o e h t len parts=some f) (hk:K f):kq ty o e h t len parts K:=by
 unfold pQ at hx;unfold kq
 repeat' split at hx
 all_goals (try (cases hx;done))
 all_goals (try simp only[*])
 all_goals first|exact hk|(cases hx;exact hk)|exact aD hx hk|exact br hx hk|exact⟨(aC hx).1,aD (aC hx).2 hk⟩|exact⟨(aC hx).1,br (aC hx).2 hk⟩|(have h2:=(aC hx).2;cases h2;exact⟨(aC hx).1,hk⟩)|exact cy (by assumption) (aD hx hk)|exact cy (by assumption) (br hx hk)|exact gi (by assumption) (aD hx hk)|exact dM (by assumption) (aD hx hk)|(rename_i l1 he;erw [he];exact aD hx hk)|(rename_i v he;erw [eH he];exact aD hx hk)
theorem OQ {o:Oper} {op:UnOp} {x:AV} (hx:Rg o op x=some f) (hk:K f):Pm o op x K:=by
 unfold Rg at hx;unfold Pm
 repeat' split at hx
 all_goals (try (cases hx;done))
 all_goals (try simp only[*])
 all_goals first|exact hk|(cases hx;exact hk)|exact aD hx hk|exact br hx hk|exact⟨(aC hx).1,aD (aC hx).2 hk⟩|exact⟨(aC hx).1,br (aC hx).2 hk⟩|(have h2:=(aC hx).2;cases h2;exact⟨(aC hx).1,hk⟩)|exact cy (by assumption) (aD hx hk)|exact cy (by assumption) (br hx hk)|exact gi (by assumption) (aD hx hk)|exact dM (by assumption) (aD hx hk)|(rename_i l1 he;erw [he];exact aD hx hk)|(rename_i v he;erw [eH he];exact aD hx hk)
theorem MK {o:Oper} {op:BinOp} {t:Nat} {x y:AV} (hx:OY ty o op t x y=some f) (hk:K f):KW ty o op t x y K:=by
 unfold OY at hx;unfold KW
 repeat' split at hx
 all_goals (try (cases hx;done))
 all_goals (try simp only[*])
 all_goals first|exact hk|(cases hx;exact hk)|exact aD hx hk|exact br hx hk|exact⟨(aC hx).1,aD (aC hx).2 hk⟩|exact⟨(aC hx).1,br (aC hx).2 hk⟩|(have h2:=(aC hx).2;cases h2;exact⟨(aC hx).1,hk⟩)|exact cy (by assumption) (aD hx hk)|exact cy (by assumption) (br hx hk)|exact gi (by assumption) (aD hx hk)|exact dM (by assumption) (aD hx hk)|(rename_i l1 he;erw [he];exact aD hx hk)|(rename_i v he;erw [eH he];exact aD hx hk)
theorem I0 {o:Oper} {t:Nat} {x ix:AV} (hx:FC ty o t x ix=some f) (hk:K f):zL ty o t x ix K:=by
 unfold FC at hx;unfold zL
 repeat' split at hx
 all_goals (try (cases hx;done))
 all_goals (try simp only[*])
 all_goals first|exact hk|(cases hx;exact hk)|exact aD hx hk|exact br hx hk|exact⟨(aC hx).1,aD (aC hx).2 hk⟩|exact⟨(aC hx).1,br (aC hx).2 hk⟩|(have h2:=(aC hx).2;cases h2;exact⟨(aC hx).1,hk⟩)|exact cy (by assumption) (aD hx hk)|exact cy (by assumption) (br hx hk)|exact gi (by assumption) (aD hx hk)|exact dM (by assumption) (aD hx hk)|(rename_i l1 he;erw [he];exact aD hx hk)|(rename_i v he;erw [eH he];exact aD hx hk)
theorem Ap {o:Oper} {t:Nat} {x ix:AV} {h:Heap} (hx:sU ty o t x ix h=some f) (hk:K f):lT ty o t x ix h K:=by
 unfold sU at hx;unfold lT
 repeat' split at hx
 all_goals (try (cases hx;done))
 all_goals (try simp only[*])
 all_goals first|exact hk|(cases hx;exact hk)|exact aD hx hk|exact br hx hk|exact⟨(aC hx).1,aD (aC hx).2 hk⟩|exact⟨(aC hx).1,br (aC hx).2 hk⟩|(have h2:=(aC hx).2;cases h2;exact⟨(aC hx).1,hk⟩)|exact cy (by assumption) (aD hx hk)|exact cy (by assumption) (br hx hk)|exact gi (by assumption) (aD hx hk)|exact dM (by assumption) (aD hx hk)|(rename_i l1 he;erw [he];exact aD hx hk)|(rename_i v he;erw [eH he];exact aD hx hk)
theorem Mj {o:Oper} {t:Nat} {x:AV} {h:Heap} (hx:OP ty o t x h=some f) (hk:K f):K9 ty o t x h K:=by
 unfold OP at hx;unfold K9
 repeat' split at hx
 all_goals (try (cases hx;done))
 all_goals (try simp only[*])
 all_goals first|exact hk|(cases hx;exact hk)|exact aD hx hk|exact br hx hk|exact⟨(aC hx).1,aD (aC hx).2 hk⟩|exact⟨(aC hx).1,br (aC hx).2 hk⟩|(have h2:=(aC hx).2;cases h2;exact⟨(aC hx).1,hk⟩)|exact cy (by assumption) (aD hx hk)|exact cy (by assumption) (br hx hk)|exact gi (by assumption) (aD hx hk)|exact dM (by assumption) (aD hx hk)|(rename_i l1 he;erw [he];exact aD hx hk)|(rename_i v he;erw [eH he];exact aD hx hk)
theorem FP {o:Oper} {e:Env} {h:Heap} {t t2:Nat} {x:Operand} {y:AV} (hx:CV ty o e h t t2 x y=some f) (hk:K f):tB ty o e h t t2 x y K:=by
 unfold CV at hx;unfold tB
 repeat' split at hx
 all_goals (try (cases hx;done))
 all_goals (try simp only[*])
 all_goals first|exact hk|(cases hx;exact hk)|exact aD hx hk|exact br hx hk|exact⟨(aC hx).1,aD (aC hx).2 hk⟩|exact⟨(aC hx).1,br (aC hx).2 hk⟩|(have h2:=(aC hx).2;cases h2;exact⟨(aC hx).1,hk⟩)|exact cy (by assumption) (aD hx hk)|exact cy (by assumption) (br hx hk)|exact gi (by assumption) (aD hx hk)|exact dM (by assumption) (aD hx hk)|(rename_i l1 he;erw [he];exact aD hx hk)|(rename_i v he;erw [eH he];exact aD hx hk)
theorem BB {o:Oper} {e:Env} {t:Nat} {x:AV} {lo hi:Option Operand} (hx:yJ ty o e t x lo hi=some f) (hk:K f):sx ty o e t x lo hi K:=by
 unfold yJ at hx;unfold sx;simp only[Nf]at hx
 repeat' split at hx
 all_goals (try (cases hx;done))
 all_goals (try simp only[*])
 all_goals first|exact hk|(cases hx;exact hk)|exact aD hx hk|exact br hx hk|exact⟨(aC hx).1,aD (aC hx).2 hk⟩|exact⟨(aC hx).1,br (aC hx).2 hk⟩|(have h2:=(aC hx).2;cases h2;exact⟨(aC hx).1,hk⟩)|exact cy (by assumption) (aD hx hk)|exact cy (by assumption) (br hx hk)|exact gi (by assumption) (aD hx hk)|exact dM (by assumption) (aD hx hk)|(rename_i l1 he;erw [he];exact aD hx hk)|(rename_i v he;erw [eH he];exact aD hx hk)
theorem Fi {o:Oper} {e:Env} {t s sz:Nat} {xs:List PV} {lo:Option Operand} (hx:B4 ty o e t s sz xs lo=some f) (hk:K f):tX ty o e t s sz xs lo K:=by
 unfold B4 at hx;unfold tX
 repeat' split at hx
 all_goals (try (cases hx;done))
 all_goals (try simp only[*])
 all_goals first|exact hk|(cases hx;exact hk)|exact aD hx hk|exact br hx hk|exact⟨(aC hx).1,aD (aC hx).2 hk⟩|exact⟨(aC hx).1,br (aC hx).2 hk⟩|(have h2:=(aC hx).2;cases h2;exact⟨(aC hx).1,hk⟩)|exact cy (by assumption) (aD hx hk)|exact cy (by assumption) (br hx hk)|exact gi (by assumption) (aD hx hk)|exact dM (by assumption) (aD hx hk)|(rename_i l1 he;erw [he];exact aD hx hk)|(rename_i v he;erw [eH he];exact aD hx hk)
theorem Ju {o:Oper} {si i:TI} {v:AV} (hx:Gr ty o si i v=some f) (hk:K f):xO ty o si i v K:=by
 unfold Gr at hx;unfold xO
 repeat' split at hx
 all_goals (try (cases hx;done))
 all_goals (try simp only[*])
 all_goals first|exact hk|(cases hx;exact hk)|exact aD hx hk|exact br hx hk|exact⟨(aC hx).1,aD (aC hx).2 hk⟩|exact⟨(aC hx).1,br (aC hx).2 hk⟩|(have h2:=(aC hx).2;cases h2;exact⟨(aC hx).1,hk⟩)|exact cy (by assumption) (aD hx hk)|exact cy (by assumption) (br hx hk)|exact gi (by assumption) (aD hx hk)|exact dM (by assumption) (aD hx hk)|(rename_i l1 he;erw [he];exact aD hx hk)|(rename_i v he;erw [eH he];exact aD hx hk)
end
section
variable {ty:Nat->Option TI} {call:Nat->List AV->Heap->Option (List Nat×Heap×AV)} {pc:Nat->List AV->Heap->(List Nat->Heap->AV->Prop)->Prop} {f:eB} {K:AK}
theorem Mp (hc:∀g l H rd hw r,call g l H=some (rd,hw,r)->∀K:List Nat->Heap->AV->Prop,K rd hw r->pc g l H K) {mv:Nat->Bool} {o:Oper} {e:Env} {h:Heap} (hx:Ot ty call mv o e h=some f) (hk:K f):LZ ty pc mv o e h K:=by
 unfold Ot at hx;unfold LZ;split at hx
 all_goals (try (cases hx;done))
 all_goals (rename_i ho)
 all_goals (try simp only[ho])
 all_goals first|exact LW hx hk|exact aD hx hk|exact I4 hx hk|exact zD hx hk|exact LN hx hk|exact Jt hx hk|exact MK hx hk|exact OQ hx hk|exact Ap hx hk|exact Mj hx hk|exact FP hx hk|exact I0 hx hk|exact BB hx hk|skip
 all_goals (repeat' split at hx)
 all_goals (try (cases hx;done))
 all_goals (try simp only[*])
 all_goals first|exact hk|(cases hx;exact hk)|exact aD hx hk|exact Ju hx hk|exact Fi hx hk|exact BB hx hk|exact hc _ _ _ _ _ _ (by assumption) _ (JT hx hk)|skip
end
end Go.AM
end
