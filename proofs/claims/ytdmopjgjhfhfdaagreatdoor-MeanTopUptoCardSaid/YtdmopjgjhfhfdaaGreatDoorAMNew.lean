/- Part of a machine over plain values. No conditions. -/
import Derived.Test.YtdmopjgjhfhfdaaGreatDoorAMDefs
import Derived.Laws.Sem
import Derived.Laws.CopyRow
import Derived.Laws.Entries
set_option linter.all false
set_option maxRecDepth 100000
namespace Go.AM
structure Mm where
 mem:Nat->Nat->Option Value
 sg:Nat->Nat->Option (Nat×Nat)
instance:CoeFun Mm (fun _=>Nat->Nat->Option Value):=⟨Mm.mem⟩
inductive bq (M:Mm):Value->PV->Prop
 |b (x:Bool):bq M (.bool x) (.b x)
 |i (k:IntKind) (n:Int):bq M (.int k n) (.i k n)
 |s (x:ByteArray):bq M (.string x) (.s x)
 |agg (vs:List Value) (xs:List PV) (hl:vs.length=xs.length) (h1:∀v∈vs,v.oneCell'=true) (hx:∀(j:Nat) (v:Value) (x:PV),vs[j]?=some v->xs[j]?=some x->bq M v x):bq M (.agg vs.toArray) (.agg xs)
 |nil (sz:Nat):bq M (.slice none 0 0) (.sl sz [])
 |sl (a:Addr) (cap sz:Nat) (xs:List PV) (f:Nat->Nat->Value) (hs:cap≠0->a.spot=none) (hc:xs.length<=cap) (hz:∀x∈xs,x.cells.length=sz)
   (hm:∀(j:Nat) (x:PV),xs[j]?=some x->∀(i:Nat) (y:PV),x.cells[i]?=some y->M a.block (a.off+j*sz+i)=some (f j i)/\(f j i).oneCell'=true)
   (hx:∀(j:Nat) (x:PV),xs[j]?=some x->∀(i:Nat) (y:PV),x.cells[i]?=some y->bq M (f j i) y):
   bq M (.slice (some a) xs.length cap) (.sl sz xs)
 |gm:bq M (.pointer none) .gm
 |tf:bq M (.slice none 0 0) .tf
 |bH (s k a C:Nat) (h:M.sg s k=some (a,C)):bq M (.pointer (some ⟨a,0,none⟩)) (.bH s k)
 |kE (s k a n cap:Nat) (h:M.sg s k=some (a,cap)) (hc:n<=cap):bq M (.slice (some ⟨a,0,none⟩) n cap) (.kE s k n)
 |pa (T:Nat) (one:Bool) (sz s k m c a C:Nat) (h:M.sg s k=some (a,C)):bq M (.pointer (some ⟨a,m*sz+c,none⟩)) (.pa T one sz s k m c)
 |bx (a:Addr) (cs:List PV) (f:Nat->Value) (hs:a.spot=none) (hm:∀(i:Nat) (y:PV),cs[i]?=some y->M a.block (a.off+i)=some (f i)/\(f i).oneCell'=true)
   (hx:∀(i:Nat) (y:PV),cs[i]?=some y->bq M (f i) y):bq M (.pointer (some a)) (.bx cs)
 |uY (T:Nat) (v:Value) (x:PV) (h:bq M v x):bq M (.iface T v) (.uY T x)
 |wU:bq M .nilIface .wU
 |amp (s k a C:Nat) (h:M.sg s k=some (a,C)):bq M (.map (some a)) (.amp s k)
theorem bq.mono {M M':Mm} (h:∀b o v,M b o=some v->M' b o=some v) {v:Value} {x:PV} (r:bq M v x) (hs:∀s k a,M.sg s k=some a->M'.sg s k=some a:=by exact fun _ _ _ q=>q):bq M' v x:=by
 induction r with
 |b x=>exact .b x
 |i k n=>exact .i k n
 |s x=>exact .s x
 |agg vs xs hl h1 _ ih=>exact .agg vs xs hl h1 ih
 |nil sz=>exact .nil sz
 |sl a cap sz xs f hs hc hz hm _ ih=>exact .sl a cap sz xs f hs hc hz (fun j x hj i y hi=>⟨h _ _ _ (hm j x hj i y hi).1,(hm j x hj i y hi).2⟩) ih
 |gm=>exact .gm
 |tf=>exact .tf
 |bH s k a C q=>exact .bH s k a C (hs s k _ q)
 |kE s k a n cap q hc=>exact .kE s k a n cap (hs s k _ q) hc
 |pa T one sz s k m c a C q=>exact .pa T one sz s k m c a C (hs s k _ q)
 |bx a cs f hs2 hm _ ih=>exact .bx a cs f hs2 (fun i y hi=>⟨h _ _ _ (hm i y hi).1,(hm i y hi).2⟩) ih
 |uY T v x _ ih=>exact .uY T v x ih
 |wU=>exact .wU
 |amp s k a C q=>exact .amp s k a C (hs s k _ q)
inductive bg where
 |slot (i:Nat)
 |cell (l j:Nat)
 |obj (l:Nat)
 |ret
 deriving DecidableEq
structure Gh where
 pre:Nat->Nat
 own:Nat->Option bg
 ρ:Nat->Nat
 σ:Nat->Nat->Option (Nat×Nat)
 sown:Nat->Option Nat
def sJ (g g':Gh):Prop:=(∀s k a,g.σ s k=some a->g'.σ s k=some a)/\g'.sown=g.sown/\∀s,g.sown s=none->∀k,g'.σ s k=g.σ s k
theorem sJ.of {g g':Gh} (h1:g'.σ=g.σ) (h2:g'.sown=g.sown):sJ g g':=⟨fun s k a q=>by rw[h1];exact q,h2,fun s _ k=>by rw[h1]⟩
theorem sJ.trans {g g' g'':Gh} (h:sJ g g') (h':sJ g' g''):sJ g g'':=
 ⟨fun s k a q=>h'.1 s k a (h.1 s k a q),h'.2.1.trans h.2.1,fun s q k=>(h'.2.2 s (by rw[h.2.1];exact q) k).trans (h.2.2 s q k)⟩
def bT (g:Gh) (w:World):Mm:=⟨fun b o=>if o<g.pre b then w.cell? ⟨b,o,none⟩ else none,g.σ⟩
theorem cO (g:Gh) (w:World) (b o:Nat):bT g w b o=if o<g.pre b then w.cell? ⟨b,o,none⟩ else none:=rfl
def wz:Bool->Value->Prop
 |false,v=>v=.nilIface
 |true,v=>∃T x,v=.iface T x
inductive aH (g:Gh) (w:World) (dom:Nat->Prop):Option bg->Value->AV->Prop
 |top (ow:Option bg) (v:Value):aH g w dom ow v .top
 |p (ow:Option bg) (v:Value) (x:PV) (h:bq (bT g w) v x):aH g w dom ow v (.p x)
 |c (ow:Option bg) (v:Value) (h1:v.oneCell'=true):aH g w dom ow v (.c v)
 |cx (ow:Option bg):aH g w dom ow (.slice none 0 0) .cx
 |es (ow:Option bg) (a:Addr) (cap sz:Nat) (hs:cap≠0->a.spot=none):aH g w dom ow (.slice (some a) 0 cap) (.es sz)
 |full (ow:Option bg) (a:Option Addr) (sz:Nat) (xs:List PV) (hz:0<sz) (h:bq (bT g w) (.slice a xs.length xs.length) (.sl sz xs)):aH g w dom ow (.slice a xs.length xs.length) (.so sz xs)
 |own (o:bg) (a:Addr) (cap sz:Nat) (xs:List PV) (cs:Array Value) (E:TypeId) (hz:0<sz) (h:bq (bT g w) (.slice (some a) xs.length cap) (.sl sz xs))
   (ho:g.own a.block=some o) (hp:g.pre a.block=a.off+xs.length*sz) (hb:w.heap[a.block]?=some (.cells cs E (0,0))) (hs:a.off+cap*sz<=cs.size):
   aH g w dom (some o) (.slice (some a) xs.length cap) (.so sz xs)
 |ptr (ow:Option bg) (l off:Nat) (hd:dom l):aH g w dom ow (.pointer (some ⟨g.ρ l,off,none⟩)) (.ptr l off)
 |vp (ow:Option bg) (a:Addr) (cs:List PV) (f:Nat->Value) (hs:a.spot=none) (hm:∀(i:Nat) (y:PV),cs[i]?=some y->bT g w a.block (a.off+i)=some (f i)/\(f i).oneCell'=true)
   (hx:∀(i:Nat) (y:PV),cs[i]?=some y->bq (bT g w) (f i) y):aH g w dom ow (.pointer (some a)) (.vp cs)
 |agg (ow:Option bg) (vs:List Value) (cs:List AV) (hl:vs.length=cs.length) (h1:∀v∈vs,v.oneCell'=true) (hx:∀(j:Nat) (v:Value) (c:AV),vs[j]?=some v->cs[j]?=some c->aH g w dom none v c):
   aH g w dom ow (.agg vs.toArray) (.agg cs)
 |cI (ow:Option bg) (vs:List Value) (cs:List AV) (hl:vs.length=cs.length) (hx:∀(j:Nat) (v:Value) (c:AV),vs[j]?=some v->cs[j]?=some c->aH g w dom none v c):
   aH g w dom ow (.tuple vs.toArray) (.cI cs)
 |ar (ow:Option bg) (l n:Nat) (hd:dom l) (hn:∃(cs:Array Value) (E:TypeId),w.heap[g.ρ l]?=some (.cells cs E (0,0))/\cs.size=n):aH g w dom ow (.slice (some ⟨g.ρ l,0,none⟩) n n) (.ar l)
 |ap (ow:Option bg) (l i:Nat) (hd:dom l):aH g w dom ow (.pointer (some ⟨g.ρ l,i,none⟩)) (.ap l i)
 |fn (ow:Option bg) (f:Nat) (fs cs:List Value) (first caps:List AV) (h1:fs.length=first.length) (h2:cs.length=caps.length)
   (hf:∀(j:Nat) (v:Value) (c:AV),fs[j]?=some v->first[j]?=some c->aH g w dom none v c) (hc:∀(j:Nat) (v:Value) (c:AV),cs[j]?=some v->caps[j]?=some c->aH g w dom none v c):
   aH g w dom ow (.func (.func f) fs.toArray cs.toArray) (.fn f first caps)
 |wM (ow:Option bg) (b:Bool) (v:Value) (h:wz b v):aH g w dom ow v (.wM b)
theorem DV {b:Bool} {v:Value} (h:wz b v):v.oneCell'=true/\v.cells=#[v]:=by
 cases b with
 |false=>have:v=.nilIface:=h;subst this;exact⟨rfl,rfl⟩
 |true=>obtain⟨T,x,rfl⟩:=h;exact⟨rfl,rfl⟩
theorem aH.keep {g g':Gh} {w w':World} {dom dom':Nat->Prop} (hi:∀b o v,bT g w b o=some v->bT g' w' b o=some v)
 (hd:∀l,dom l->dom' l/\g'.ρ l=g.ρ l) (har:∀l cs E,dom l->w.heap[g.ρ l]?=some (.cells cs E (0,0))->∃cs' E',w'.heap[g.ρ l]?=some (.cells cs' E' (0,0))/\cs'.size=cs.size)
 {ow:Option bg} (ho:∀o b,ow=some o->g.own b=some o->g'.own b=some o/\g'.pre b=g.pre b/\w'.heap[b]?=w.heap[b]?)
 {v:Value} {x:AV} (r:aH g w dom ow v x) (hsg:∀s k a,g.σ s k=some a->g'.σ s k=some a:=by exact fun _ _ _ q=>q):aH g' w' dom' ow v x:=by
 induction r with
 |top ow v=>exact .top ow v
 |p ow v x h=>exact .p ow v x (h.mono hi hsg)
 |c ow v h1=>exact .c ow v h1
 |cx ow=>exact .cx ow
 |es ow a cap sz hs=>exact .es ow a cap sz hs
 |full ow a sz xs hz h=>exact .full ow a sz xs hz (h.mono hi hsg)
 |own o a cap sz xs cs E hz h hw hp hb hs=>
  obtain⟨h1,h2,h3⟩:=ho o a.block rfl hw;exact .own o a cap sz xs cs E hz (h.mono hi hsg) h1 (h2.trans hp) (h3.trans hb) hs
 |ptr ow l off h=>obtain⟨h1,h2⟩:=hd l h;rw[<-h2];exact .ptr ow l off h1
 |vp ow a cs f hs hm hx=>exact .vp ow a cs f hs (fun i y h=>⟨hi _ _ _ (hm i y h).1,(hm i y h).2⟩) (fun i y h=>(hx i y h).mono hi hsg)
 |agg ow vs cs hl h1 _ ih=>exact .agg ow vs cs hl h1 (fun j v c h1 h2=>ih j v c h1 h2 (fun _ _ h=>by cases h))
 |cI ow vs cs hl _ ih=>exact .cI ow vs cs hl (fun j v c h1 h2=>ih j v c h1 h2 (fun _ _ h=>by cases h))
 |ar ow l n h hn=>
  obtain⟨h1,h2⟩:=hd l h;obtain⟨cs,E,hb,hs⟩:=hn;obtain⟨cs',E',hb',hs'⟩:=har l cs E h hb;rw[<-h2]at hb' ⊢;exact .ar ow l n h1 ⟨cs',E',hb',hs'.trans hs⟩
 |ap ow l i h=>obtain⟨h1,h2⟩:=hd l h;rw[<-h2];exact .ap ow l i h1
 |wM ow b v h=>exact .wM ow b v h
 |fn ow f fs cs first caps h1 h2 _ _ ih1 ih2=>exact .fn ow f fs cs first caps h1 h2 (fun j v c a b=>ih1 j v c a b (fun _ _ h=>by cases h)) (fun j v c a b=>ih2 j v c a b (fun _ _ h=>by cases h))
theorem aH.copy {g:Gh} {w:World} {dom:Nat->Prop} {ow ow':Option bg} {v:Value} {x:AV} (r:aH g w dom ow v x):aH g w dom ow' v x.copy:=by
 cases r with
 |top=>exact .top _ _
 |p _ _ _ h=>exact .p _ _ _ h
 |c _ _ h1=>exact .c _ _ h1
 |cx=>exact .cx _
 |es _ a cap sz hs=>exact .es _ a cap sz hs
 |full _ a sz xs hz h=>exact .p _ _ _ h
 |own o a cap sz xs cs E hz h=>exact .p _ _ _ h
 |ptr _ l off hd=>exact .ptr _ _ _ hd
 |vp _ a cs f hs hm hx=>exact .vp _ _ _ f hs hm hx
 |agg _ vs cs hl h1 hx=>exact .agg _ _ _ hl h1 hx
 |cI _ vs cs hl hx=>exact .cI _ _ _ hl hx
 |ar _ l n hd hn=>exact .ar _ _ _ hd hn
 |ap _ l i hd=>exact .ap _ _ _ hd
 |wM _ b v h=>exact .wM _ b v h
 |fn _ f fs cs first caps h1 h2 hf hc=>exact .fn _ _ _ _ _ _ h1 h2 hf hc
theorem aH.bW {g:Gh} {w:World} {dom:Nat->Prop} {ow ow':Option bg} {v:Value} {x:AV} (hx:∀sz xs,x≠.so sz xs) (r:aH g w dom ow v x):aH g w dom ow' v x:=by
 have e:x.copy=x:=by cases x<;>first|rfl|exact absurd rfl (hx _ _)
 rw[<-e];exact r.copy
def aE (h:Heap) (l:Nat):Prop:=(aF h l).isSome=true
def iG (M:Mm) (es:List MapEntry) (xs:List (PV×PV)):Prop:=
 es.length=xs.length/\∀(j:Nat) (e:MapEntry) (x:PV×PV),es[j]?=some e->xs[j]?=some x->bq M e.key x.1/\bq M e.val x.2
def mU (es:Array MapEntry) (clock:Nat):Prop:=clock=es.size/\∀(j:Nat) (e:MapEntry),es[j]?=some e->e.born=j
def yl (g:Gh) (w:World) (a:Nat×Nat) (sz:Nat) (xs:List PV):Prop:=
 ∃(vs:Array Value) (E:TypeId),w.heap[a.1]?=some (.cells vs E (0,0))/\0<sz/\(xs.length<=a.2/\a.2*sz<=vs.size)/\(∀x∈xs,x.cells.length=sz)/\
  ∀(j:Nat) (x:PV),xs[j]?=some x->∀(i:Nat) (y:PV),x.cells[i]?=some y->∃v,vs[j*sz+i]?=some v/\v.oneCell'=true/\bq (bT g w) v y
theorem yl.mono {g g':Gh} {w w':World} {a:Nat×Nat} {sz:Nat} {xs:List PV} (h:yl g w a sz xs) (hi:∀b o v,bT g w b o=some v->bT g' w' b o=some v) (hb:w'.heap[a.1]?=w.heap[a.1]?) (hs:∀s k a,g.σ s k=some a->g'.σ s k=some a:=by exact fun _ _ _ q=>q):yl g' w' a sz xs:=by
 obtain⟨vs,E,h1,h2,h3,h4,h6⟩:=h;refine⟨vs,E,hb.trans h1,h2,h3,h4,fun j x hx i y hy=>?_⟩;obtain⟨v,q1,q2,q3⟩:=h6 j x hx i y hy;exact⟨v,q1,q2,q3.mono hi hs⟩
def SMap (g:Gh) (w:World) (b:Nat) (xs:List PV):Prop:=
 ∃(pk:Bool) (es:Array MapEntry) (clock:Nat) (ps:List (PV×PV)),w.heap[b]?=some (.map es clock)/\xs=ps.map (Pw pk)/\iG (bT g w) es.toList ps/\(∀x∈ps,O9 pk x.1)/\mU es clock
def vW (g:Gh) (w:World) (a:Nat×Nat) (sz:Nat) (xs:List PV):Prop:=yl g w a sz xs\/(sz=0/\SMap g w a.1 xs)
theorem vW.mono {g g':Gh} {w w':World} {a:Nat×Nat} {sz:Nat} {xs:List PV} (h:vW g w a sz xs) (hi:∀b o v,bT g w b o=some v->bT g' w' b o=some v) (hb:w'.heap[a.1]?=w.heap[a.1]?) (hs:∀s k a,g.σ s k=some a->g'.σ s k=some a:=by exact fun _ _ _ q=>q):vW g' w' a sz xs:=by
 rcases h with h|⟨h0,pk,es,c,ps,h1,h2,h3,h4⟩
 ·exact .inl (h.mono hi hb hs)
 ·exact .inr ⟨h0,pk,es,c,ps,hb.trans h1,h2,⟨h3.1,fun j e x q1 q2=>⟨(h3.2 j e x q1 q2).1.mono hi hs,(h3.2 j e x q1 q2).2.mono hi hs⟩⟩,h4⟩
structure ez (g:Gh) (w:World) (l sp nx sz:Nat) (M:List (Nat×List PV)):Prop where
 sown:g.sown sp=some l
 fresh:∀k,nx<=k->g.σ sp k=none
 row:∀k xs,(k,xs)∈M->∃a,g.σ sp k=some a/\g.own a.1=some (.obj l)/\g.pre a.1=0/\vW g w a sz xs
 inj:∀k k' xs xs' a a',(k,xs)∈M->(k',xs')∈M->g.σ sp k=some a->g.σ sp k'=some a'->a.1=a'.1->k=k'
 nodup:(M.map (·.1)).Nodup
theorem ez.EV {g:Gh} {w:World} {l sp nx sz:Nat} {M:List (Nat×List PV)} (h:ez g w l sp nx sz M) (hz:sz≠0) (k:Nat) (xs:List PV) (hk:(k,xs)∈M):∃a,g.σ sp k=some a/\g.own a.1=some (.obj l)/\g.pre a.1=0/\yl g w a sz xs:=by
 obtain⟨a,h1,h2,h3,h4⟩:=h.row k xs hk;rcases h4 with h4|h4
 ·exact⟨a,h1,h2,h3,h4⟩
 ·exact absurd h4.1 hz
theorem ez.Je {g:Gh} {w:World} {l sp nx sz:Nat} {M:List (Nat×List PV)} (h:ez g w l sp nx sz M) (hz:sz=0) (k:Nat) (xs:List PV) (hk:(k,xs)∈M):∃a,g.σ sp k=some a/\g.own a.1=some (.obj l)/\g.pre a.1=0/\SMap g w a.1 xs:=by
 obtain⟨a,h1,h2,h3,h4⟩:=h.row k xs hk;rcases h4 with⟨_,_,_,q,_⟩|h4
 ·omega
 ·exact⟨a,h1,h2,h3,h4.2⟩
theorem ez.mono {g g':Gh} {w w':World} {l l' sp nx sz:Nat} {M:List (Nat×List PV)} (h:ez g w l sp nx sz M) (hi:∀b o v,bT g w b o=some v->bT g' w' b o=some v)
 (ho:∀a,g.own a=some (.obj l)->g'.own a=some (.obj l')/\w'.heap[a]?=w.heap[a]?/\g'.pre a=g.pre a) (hw:g'.sown sp=some l') (hs:∀s k a,g.σ s k=some a->g'.σ s k=some a:=by exact fun _ _ _ q=>q)
 (he:∀k,g'.σ sp k=g.σ sp k:=by exact fun _=>rfl):ez g' w' l' sp nx sz M:=by
 refine⟨hw,fun k hk=>(he k).trans (h.fresh k hk),fun k xs hk=>?_,fun k k' xs xs' a a' q1 q2 q3 q4=>h.inj k k' xs xs' a a' q1 q2 ((he k).symm.trans q3) ((he k').symm.trans q4),h.nodup⟩;obtain⟨a,h1,h2,h3,h4⟩:=h.row k xs hk;obtain⟨k1,k2,k3⟩:=ho a.1 h2;exact⟨a,(he k).trans h1,k1,k3.trans h3,h4.mono hi k2 hs⟩
inductive gN (g:Gh) (w:World) (dom:Nat->Prop) (l:Nat):bu->Prop
 |cells (cs:List AV) (vs:Array Value) (E:TypeId) (hb:w.heap[g.ρ l]?=some (.cells vs E (0,0))) (hl:vs.size=cs.length)
   (hx:∀(j:Nat) (v:Value) (c:AV),vs[j]?=some v->cs[j]?=some c->aH g w dom (some (.cell l j)) v c)
   (h1:∀v∈vs.toList,v.oneCell'=true):gN g w dom l (.cells cs)
 |arr (xs:List PV) (vs:Array Value) (E:TypeId) (hb:w.heap[g.ρ l]?=some (.cells vs E (0,0))) (hl:vs.size=xs.length)
   (hx:∀(j:Nat) (v:Value) (x:PV),vs[j]?=some v->xs[j]?=some x->bq (bT g w) v x)
   (h1:∀v∈vs.toList,v.oneCell'=true):gN g w dom l (.arr xs)
 |bJ (b:Nat) (vs:List Value) (h:g.own b=none/\∃(E:TypeId) (fr:Nat×Nat),w.heap[b]?=some (.cells vs.toArray E fr)):gN g w dom l (.bJ b vs)
 |store (T:Nat) (one:Bool) (sp nx sz:Nat) (M:List (Nat×List PV)) (h:ez g w l sp nx sz M):gN g w dom l (.store T one sp nx sz M)
theorem gN.lM {g g':Gh} {w w':World} {dom':Nat->Prop} {l b:Nat} {vs:List Value} (h:g.own b=none/\∃(E:TypeId) (fr:Nat×Nat),w.heap[b]?=some (.cells vs.toArray E fr)) (A:g.own b=none->b<w.heap.size->(∃c E fr,w.heap[b]?=some (.cells c E fr))->w'.heap[b]?=w.heap[b]?/\g'.own b=none):gN g' w' dom' l (.bJ b vs):=by
 obtain⟨h1,E,fr,h2⟩:=h;obtain⟨q1,q2⟩:=A h1 (Array.getElem?_eq_some_iff.1 h2).1 ⟨_,_,_,h2⟩;exact .bJ b vs ⟨q2,E,fr,by rw[q1];exact h2⟩
structure gx (g:Gh) (w:World) (h:Heap):Prop where
 obj:∀l o,aF h l=some o->gN g w (aE h) l o
 own:∀l o,aF h l=some o->o.dP=true->g.own (g.ρ l)=some (.obj l)
 pre:∀l o,aF h l=some o->o.dP=true->g.pre (g.ρ l)=0
structure cw (g:Gh) (w:World) (n:Nat) (a:Act) (e:Env) (h:Heap):Prop where
 defers:a.defers=[]
 size:a.tmps.size=n
 env:∀i,aH g w (aE h) (some (.slot i)) (a.tmps.getD i undef) (aL e i)
 heap:gx g w h
 bnd:∀b o,g.own b=some o->b<w.heap.size
structure Ext (g:Gh) (w:World) (g':Gh) (w':World):Prop where
 size:w.heap.size<=w'.heap.size
 os:w'.os=w.os
 out:w'.output=w.output
 bT:∀b o v,bT g w b o=some v->bT g' w' b o=some v
 kept:∀b,b<w.heap.size->g.own b=none->w'.heap[b]?=w.heap[b]?/\g'.pre b=g.pre b/\g'.own b=none
 uC:sJ g g'
 frz':∀a:Addr,a.block<w.heap.size->w'.frozen? a=w.frozen? a
 ρk:∀l,bP<=l->g'.ρ l=g.ρ l
 siz:∀(b:Nat) (cs:Array Value) (E:TypeId),w.heap[b]?=some (.cells cs E (0,0))->∃(cs':Array Value) (E':TypeId),w'.heap[b]?=some (.cells cs' E' (0,0))/\cs'.size=cs.size
theorem Ext.refl (g:Gh) (w:World):Ext g w g w:=
 ⟨Nat.le_refl _,rfl,rfl,fun _ _ _ h=>h,fun _ _ ho=>⟨rfl,rfl,ho⟩,sJ.of rfl rfl,fun _ _=>rfl,fun _ _=>rfl,fun b cs E hb=>⟨cs,E,hb,rfl⟩⟩
theorem Ext.trans {g g' g'':Gh} {w w' w'':World} (h:Ext g w g' w') (h':Ext g' w' g'' w''):Ext g w g'' w'':=by
 refine⟨Nat.le_trans h.size h'.size,h'.os.trans h.os,h'.out.trans h.out,fun b o v hv=>h'.bT _ _ _ (h.bT _ _ _ hv),fun b hb ho=>?_,h.uC.trans h'.uC,fun a ha=>?_,fun l hl=>(h'.ρk l hl).trans (h.ρk l hl),fun b cs E hb=>?_⟩
 ·obtain⟨h1,h2,h3⟩:=h.kept b hb ho
  obtain⟨k1,k2,k3⟩:=h'.kept b (Nat.lt_of_lt_of_le hb h.size) h3;exact⟨k1.trans h1,k2.trans h2,k3⟩
 ·rw[h'.frz' a (Nat.lt_of_lt_of_le ha h.size)];exact h.frz' a ha
 ·obtain⟨cs1,E1,q1,q2⟩:=h.siz b cs E hb
  obtain⟨cs2,E2,q3,q4⟩:=h'.siz b cs1 E1 q1;exact⟨cs2,E2,q3,q4.trans q2⟩
def Mx (P:Program) (t:Nat):Option KD:=match P.underlying t,P.info? t with
 |some .bool,some _=>some .kb
 |some (.int k),some _=>some (.ki k)
 |some .string,some _=>some .ks
 |_,_=>none
def jD (P:Program):Nat->List Field->List KD->Bool
 |_,[],[]=>true
 |n,f::r,k::ks=>Nat.beq f.offset n&&(f.name != "_")&&(Mx P f.type==some k)&&Nat.beq (P.cellsOf f.type) 1&&jD P (n+1) r ks
 |_,_,_=>false
def LX (P:Program) (t:Nat) (ks:List KD):Bool:=!(P.eqGuardType P.depth t)&&(match P.underlying t with
 |some (.struct fs)=>!(P.stoodInHeld t)&&jD P 0 fs.toList ks
 |some (.array m el)=>Nat.beq (P.cellsOf el) 1&&Nat.beq ks.length m&&ks.all (fun k=>Mx P el==some k)
 |_=>false)
def Ku (P:Program) (T:Nat) (name:String) (f:Nat):Prop:=∀x w,(method (P.types.size+Made.depth) T x name).run P w=.ok (f,x) w
structure Qg (P:Program) (t:Nat) (i:TI):Prop where
 und:P.underlying t=some i.desc
 inf:∃inf z,P.info? t=some inf/\inf.size=i.size/\inf.bytes=i.bytes/\inf.zero=some z/\z.cells.toList=i.zero/\i.zero.length=i.size
 one:∀v∈i.zero,v.oneCell'=true
 eqs:i.eqs=[]\/LX P t i.eqs=true
 agz:dA i.desc=true->∃inf z,P.info? t=some inf/\inf.zero=some z/\∃cs,z=.agg cs
 noz:dA i.desc=false->∃inf z,P.info? t=some inf/\inf.zero=some z/\z.cells=#[z]
 mth:∀p∈i.meth,Ku P t p.1 p.2
 plc:∀fs,i.desc=.struct fs->∃places,fs.toList.mapM (fun f=>(P.info? f.type).map fun i=>(f.offset,i.size))=some places
def bB (P:Program) (ty:Nat->Option TI):Prop:=∀t i,ty t=some i->Qg P t i
theorem Oper.cp {P:Program} {o:Oper} {a:Act} {w w':World} {v:Value} {K:Act->World->Prop} {Q:Exit->Act->World->Prop}
 (hr:(execOp a.eval o).run P w=.ok (.value v) w') (h:K (a.put o.dst v) w'):o.wp P a w K Q:=by
 simp only[Oper.wp,hr,Oper.upon];exact h
theorem Oper.wp_skip {P:Program} {o:Oper} {a:Act} {w w':World} {K:Act->World->Prop} {Q:Exit->Act->World->Prop}
 (hr:(execOp a.eval o).run P w=.ok .skip w') (h:K (a.put o.dst undef) w'):o.wp P a w K Q:=by
 simp only[Oper.wp,hr,Oper.upon];exact h
def cJ (P:Program) (n:Nat) (o:Oper) (e:Env) (h:Heap) (f:eB):Prop:=
 ∀e' h',(∀t∈slotsOf o,aL e' t=aL e t)->(∀l∈f.rd++f.hw.map (·.1),aF h' l=aF h l)->
  ∀g w a,cw g w n a e' h'->o.wp P a w (fun a' w'=>∃g',cw g' w' n a' (f.ew.reverse++e') (f.hw.reverse++h')/\Ext g w g' w') (fun _ _ _=>False)
theorem beq_false {a b:Nat} (h:a≠b):Nat.beq a b=false:=by
 cases hb:Nat.beq a b with
 |false=>rfl
 |true=>exact absurd (Nat.eq_of_beq_eq_true hb) h
theorem mj (a:Nat):Nat.beq a a=true:=Nat.beq_refl a
theorem bA (d:Nat) (v:AV) (e:Env):aL ((d,v)::e) d=v:=by simp[aL]
theorem bO {d i:Nat} (h:d≠i) (v:AV) (e:Env):aL ((d,v)::e) i=aL e i:=by simp[aL,beq_false h]
theorem aQ (d:Nat) (v:bu) (e:Heap):aF ((d,v)::e) d=some v:=by simp[aF]
theorem aT {d i:Nat} (h:d≠i) (v:bu) (e:Heap):aF ((d,v)::e) i=aF e i:=by simp[aF,beq_false h]
theorem cw.put {g:Gh} {w:World} {n:Nat} {a:Act} {e:Env} {h:Heap} (s:cw g w n a e h) {d:Nat} (hd:d<n) {v:Value} {x:AV}
 (r:aH g w (aE h) (some (.slot d)) v x):cw g w n (a.put (some d) v) ((d,x)::e) h:=by
 refine⟨s.defers,by simp[Act.put,s.size],fun i=>?_,s.heap,s.bnd⟩
 by_cases hi:d=i
 ·subst hi
  rw[bA];have:(a.put (some d) v).tmps.getD d undef=v:=by simp[Act.put,s.size,hd]
  rw[this];exact r
 ·rw[bO hi]
  have:(a.put (some d) v).tmps.getD i undef=a.tmps.getD i undef:=by simp[Act.put,Array.getD_eq_getD_getElem?,hi]
  rw[this];exact s.env i
theorem cw.drew {g:Gh} {w:World} {n:Nat} {a:Act} {e:Env} {h:Heap} {k:Nat} (s:cw g w n a e h):cw g { w with drawn:=k } n a e h:=by
 have key:∀{ow v x},aH g w (aE h) ow v x->aH g { w with drawn:=k } (aE h) ow v x:=fun r=>
  aH.keep (g:=g) (g':=g) (w:=w) (w':={ w with drawn:=k }) (fun _ _ _ h=>h) (fun l hl=>⟨hl,rfl⟩) (fun l cs E _ hb=>⟨cs,E,hb,rfl⟩) (fun o b _ ho=>⟨ho,rfl,rfl⟩) r
 refine⟨s.defers,s.size,fun i=>key (s.env i),⟨fun l o ho=>?_,s.heap.own,s.heap.pre⟩,s.bnd⟩
 cases s.heap.obj l o ho with
 |cells cs vs E hb hl hx h1=>exact .cells cs vs E hb hl (fun j v c h2 h3=>key (hx j v c h2 h3)) h1
 |arr xs vs E hb hl hx h1=>exact .arr xs vs E hb hl hx h1
 |bJ gb gvs hgl=>exact .bJ gb gvs hgl
 |store T3 o3 sp3 nx3 z3 M3 hst=>exact .store T3 o3 sp3 nx3 z3 M3 (hst.mono (fun _ _ _ q=>q) (fun _ q=>⟨q,rfl,rfl⟩) hst.sown)
theorem Ext.drew {g:Gh} {w:World} {k:Nat}:Ext g w g { w with drawn:=k }:=
 ⟨Nat.le_refl _,rfl,rfl,fun _ _ _ h=>h,fun _ _ ho=>⟨rfl,rfl,ho⟩,sJ.of rfl rfl,fun _ _=>rfl,fun _ _=>rfl,fun b cs E hb=>⟨cs,E,hb,rfl⟩⟩
theorem uD {g:Gh} {w:World} {dom:Nat->Prop} {ow:Option bg} (v:Value):aH g w dom ow v (nU v):=by
 unfold nU;split<;>first|exact .p _ _ _ (.b _)|exact .p _ _ _ (.i _ _)|exact .p _ _ _ (.s _)|exact .cx _|exact .p _ _ _ .gm|exact .c _ _ rfl|exact .top _ _
theorem rT:∀(l:List Value) (j:Nat),(gH l)[j]?=(l[j]?).map nU
 | [],j=>by simp[gH]
 |x::r,0=>by simp[gH]
 |x::r,j+1=>by simp[gH,rT r j]
theorem nF:∀(l:List Value),(gH l).length=l.length
 | []=>rfl
 |_::r=>by simp[gH,nF r]
theorem uG:∀{l:List Value},uQ l=true->∀v∈l,v.oneCell'=true
 | [],_,v,hv=>by cases hv
 |x::r,h,v,hv=>by
  simp only[uQ,Bool.and_eq_true]at h;rcases List.mem_cons.1 hv with rfl|hv
  ·exact h.1
  ·exact uG h.2 v hv
theorem iT {g:Gh} {w:World} {dom:Nat->Prop} {ow:Option bg} (v:Value):aH g w dom ow v (jS v):=by
 unfold jS;split
 ·rename_i cs
  split
  ·rename_i hc
   refine .agg ow cs (gH cs) (nF cs).symm (uG hc) (fun j v c h1 h2=>?_);rw[rT,h1]at h2;cases h2;exact uD v
  ·exact .top _ _
 ·exact uD _
theorem sM {v:Value} {sz:Nat} {xs:List PV} (h:jS v=.so sz xs):False:=by
 unfold jS at h;split at h
 ·split at h<;>cases h
 ·unfold nU at h;split at h<;>cases h
theorem cw.ev {g:Gh} {w:World} {n:Nat} {a:Act} {e:Env} {h:Heap} (s:cw g w n a e h) (x:Operand):∃ow,aH g w (aE h) ow (a.eval x) (ev e x):=by
 cases x with
 |tmp t=>exact⟨_,s.env t⟩
 |const v=>exact⟨none,iT v⟩
 |func f=>exact⟨none,.fn none f [] [] [] [] rfl rfl (fun j v c h=>by simp at h) (fun j v c h=>by simp at h)⟩
 |global b=>exact⟨none,.top _ _⟩
theorem DA {o:Oper} {e e':Env} (h:∀t∈slotsOf o,aL e' t=aL e t) {x:Operand} (hx:x∈o.op.operands):ev e' x=ev e x:=by
 cases x with
 |tmp t=>exact h t (by simp only[slotsOf,List.mem_filterMap];exact⟨.tmp t,by simpa using hx,rfl⟩)
 |_=>rfl
theorem cJ.ret {P:Program} {n:Nat} {o:Oper} {e:Env} {h:Heap} {rd:List Nat} {x:AV} (hd:∀d,o.dst=some d->d<n)
 (hx:∀e' h',(∀t∈slotsOf o,aL e' t=aL e t)->(∀l∈rd,aF h' l=aF h l)->∀g w a,cw g w n a e' h'->
   ∃v,(execOp a.eval o).run P w=.ok (.value v) w/\∀d,o.dst=some d->aH g w (aE h') (some (.slot d)) v x):
 cJ P n o e h (match o.dst with|some d=>⟨rd,[(d,x)],[]⟩|none=>⟨rd,[],[]⟩):=by
 intro e' h' he hh g w a s
 have hrd:∀l∈rd,aF h' l=aF h l:=by
  intro l hl
  cases hdst:o.dst<;>simp only[hdst]at hh<;>exact hh l (by simp[hl])
 obtain⟨v,hr,hv⟩:=hx e' h' he hrd g w a s;refine Oper.cp hr ⟨g,?_,Ext.refl _ _⟩
 cases hdst:o.dst with
 |none=>exact s
 |some d=>exact s.put (hd d hdst) (hv d hdst)
theorem Nx {o:Oper} {v:AV} {K:AK} (hk:ret o v K):K (match o.dst with|some d=>⟨[],[(d,v)],[]⟩|none=>⟨[],[],[]⟩):=by
 unfold ret at hk
 cases hd:o.dst<;>simp only[hd,AV.force_eq]at hk<;>exact hk
theorem Kh {o:Oper} {l:Nat} {v:AV} {K:AK} (hk:pL o l v K):K (match o.dst with|some d=>⟨[l],[(d,v)],[]⟩|none=>⟨[l],[],[]⟩):=by
 unfold pL at hk
 cases hd:o.dst<;>simp only[hd,AV.force_eq]at hk<;>exact hk
theorem aI {P:Program} {n:Nat} {o:Oper} {e:Env} {h:Heap} {x:AV} {K:AK} (hd:∀d,o.dst=some d->d<n) (hk:Go.AM.ret o x K)
 (hx:∀e' h',(∀t∈slotsOf o,aL e' t=aL e t)->∀g w a,cw g w n a e' h'->
   ∃v,(execOp a.eval o).run P w=.ok (.value v) w/\∀d,o.dst=some d->aH g w (aE h') (some (.slot d)) v x):∃f,K f/\cJ P n o e h f:=
 ⟨_,Nx hk,cJ.ret hd fun e' h' he _=>hx e' h' he⟩
theorem dD {P:Program} {n:Nat} {o:Oper} {e:Env} {h:Heap} {l:Nat} {x:AV} {K:AK} (hd:∀d,o.dst=some d->d<n) (hk:Go.AM.pL o l x K)
 (hx:∀e' h',(∀t∈slotsOf o,aL e' t=aL e t)->aF h' l=aF h l->∀g w a,cw g w n a e' h'->
   ∃v,(execOp a.eval o).run P w=.ok (.value v) w/\∀d,o.dst=some d->aH g w (aE h') (some (.slot d)) v x):∃f,K f/\cJ P n o e h f:=
 ⟨_,Kh hk,cJ.ret hd fun e' h' he hl=>hx e' h' he (hl l (by simp))⟩
theorem gz {α:Type}:∀(cs:List α) (off n:Nat) (l:List α),jy cs off n=some l->l.length=n/\∀j,j<n->l[j]?=cs[off+j]?
 |_,_,0,l,h=>by simp[jy]at h;subst h;simp
 | [],_,_+1,l,h=>by simp[jy]at h
 |x::r,0,n+1,l,h=>by
  simp only[jy]at h
  cases hg:jy r 0 n with
  |none=>simp[hg]at h
  |some l1=>
   simp only[hg,Option.some.injEq]at h;subst h;obtain⟨h1,h2⟩:=gz r 0 n l1 hg;refine⟨by simp[h1],fun j hj=>?_⟩
   cases j with
   |zero=>simp
   |succ j=>have:=h2 j (by omega);simpa using this
 |x::r,o+1,n+1,l,h=>by
  simp only[jy]at h;obtain⟨h1,h2⟩:=gz r o (n+1) l h;refine⟨h1,fun j hj=>?_⟩;rw[h2 j hj,show o+1+j=(o+j)+1 by omega];simp
theorem iL {α:Type}:∀(cs:List α) (off:Nat) (ys cs':List α),setAt cs off ys=some cs'->cs'.length=cs.length/\(ys≠[]->off+ys.length<=cs.length)/\
 ∀j,cs'[j]?=if off<=j/\j<off+ys.length then ys[j-off]? else cs[j]?
 |cs,off,[],cs',h=>by
  have:cs'=cs:=by cases cs<;>simpa[setAt] using h.symm
  subst this;refine⟨rfl,by simp,fun j=>?_⟩;rw[if_neg (by simp)]
 | [],off,y::ys,cs',h=>by simp[setAt]at h
 |x::r,0,y::ys,cs',h=>by
  simp only[setAt]at h
  cases hg:setAt r 0 ys with
  |none=>simp[hg]at h
  |some l1=>
   simp only[hg,Option.some.injEq]at h;subst h;obtain⟨h1,h2,h3⟩:=iL r 0 ys l1 hg;refine⟨by simp[h1],fun _=>?_,fun j=>?_⟩
   ·by_cases hy:ys=[]
    ·subst hy;simp
    ·have:=h2 hy;simp at this ⊢;omega
   ·cases j with
    |zero=>simp
    |succ j=>
     have:=h3 j;simp only[List.getElem?_cons_succ,List.length_cons,Nat.zero_le,true_and,Nat.zero_add,Nat.sub_zero]at this ⊢;rw[this]
     by_cases hj:j<ys.length
     ·rw[if_pos hj,if_pos (by omega)]
     ·rw[if_neg hj,if_neg (by omega)]
 |x::r,o+1,y::ys,cs',h=>by
  simp only[setAt]at h
  cases hg:setAt r o (y::ys) with
  |none=>simp[hg]at h
  |some l1=>
   simp only[hg,Option.some.injEq]at h;subst h;obtain⟨h1,h2,h3⟩:=iL r o (y::ys) l1 hg;refine⟨by simp[h1],fun hy=>by have:=h2 hy;simp at this ⊢;omega,fun j=>?_⟩
   cases j with
   |zero=>simp
   |succ j=>
    have:=h3 j;simp only[List.getElem?_cons_succ]at this ⊢;rw[this]
    by_cases hj:o<=j/\j<o+(y::ys).length
    ·rw[if_pos hj,if_pos (by omega)];congr 1;omega
    ·rw[if_neg hj,if_neg (by omega)]
theorem sr:∀(xs:List PV) (j:Nat),(iK xs)[j]?=(xs[j]?).map AV.p
 | [],j=>by simp[iK]
 |x::r,0=>by simp[iK]
 |x::r,j+1=>by simp[iK,sr r j]
theorem rJ (xs:List PV):(iK xs).length=xs.length:=by
 induction xs with
 |nil=>rfl
 |cons x r ih=>simp[iK,ih]
theorem qM:∀(xs:List AV) (j:Nat),(ld xs)[j]?=(xs[j]?).map AV.copy
 | [],j=>by simp[ld]
 |x::r,0=>by simp[ld]
 |x::r,j+1=>by simp[ld,qM r j]
theorem pW (xs:List AV):(ld xs).length=xs.length:=by
 induction xs with
 |nil=>rfl
 |cons x r ih=>simp[ld,ih]
theorem rz {g:Gh} {w:World} {dom:Nat->Prop} {ow:Option bg} {v:Value} {x:AV} {z:Nat} {y:PV} (r:aH g w dom ow v x) (h:x.mM z=some y):bq (bT g w) v y:=by
 cases r with
 |p _ _ _ h'=>simp[AV.mM]at h;exact h ▸ h'
 |cx=>
  simp only[AV.mM,Option.some.injEq]at h;subst h
  cases z with
  |zero=>exact .tf
  |succ z=>exact .nil _
 |es _ a cap sz hs=>simp[AV.mM]at h;subst h;exact .sl a cap sz [] (fun _ _=>undef) hs (Nat.zero_le _) (by simp) (by simp) (by simp)
 |full _ a sz xs hz h'=>simp[AV.mM]at h;exact h ▸ h'
 |vp _ a cs f hs hm hx=>simp[AV.mM]at h;subst h;exact .bx a cs f hs hm hx
 |own o a cap sz xs cs E hz h'=>simp[AV.mM]at h;exact h ▸ h'
 |_=>simp[AV.mM]at h
theorem jv {g:Gh} {w:World} {dom:Nat->Prop}:∀(cs:List AV) (z:List Nat) (l:List PV),jm cs z=some l->l.length=cs.length/\
 ∀(j:Nat) (v:Value) (ow:Option bg) (c:AV) (y:PV),cs[j]?=some c->l[j]?=some y->aH g w dom ow v c->bq (bT g w) v y
 | [],z,l,h=>by simp[jm]at h;subst h;simp
 |c::r,z,l,h=>by
  simp only[jm]at h
  cases h1:c.mM (headD z) with
  |none=>simp[h1]at h
  |some x=>
   cases h2:jm r z.tail with
   |none=>simp[h1,h2]at h
   |some l1=>
    simp only[h1,h2,Option.some.injEq]at h;subst h;obtain⟨k1,k2⟩:=jv (g:=g) (w:=w) (dom:=dom) r z.tail l1 h2;refine⟨by simp[k1],fun j v ow c' y hc hy hr=>?_⟩
    cases j with
    |zero=>simp at hc hy;subst hc;subst hy;exact rz hr h1
    |succ j=>simp at hc hy;exact k2 j v ow c' y hc hy hr
theorem lE {g:Gh} {w:World} {dom:Nat->Prop} {ow:Option bg} {v:Value} {x:AV} {z:List Nat} {y:PV} (r:aH g w dom ow v x) (h:x.tE z=some y):bq (bT g w) v y:=by
 cases x with
 |agg cs=>
  cases r with
  |agg _ vs _ hl h1 hx=>
   simp only[AV.tE]at h;split at h
   ·rename_i l hl2
    cases h;obtain⟨k1,k2⟩:=jv (g:=g) (w:=w) (dom:=dom) cs z l hl2;refine .agg vs l (hl.trans k1.symm) h1 fun j v y hv hy=>?_;have hj:j<cs.length:=by have:=(List.getElem?_eq_some_iff.1 hv).1;omega
    exact k2 j v none cs[j] y (by simp[hj]) hy (hx j v cs[j] hv (by simp[hj]))
   ·cases h
 |_=>exact rz (z:=headD z) r h
theorem vO {ty:Nat->Option TI} {g:Gh} {w:World} {dom:Nat->Prop} {ow:Option bg} {v:Value} {cs:List AV} (t:Nat) (r:aH g w dom ow v (.agg cs)):aH g w dom ow v (A2 ty t cs):=by
 unfold A2;split
 ·rename_i i _
  split
  ·rename_i l hl
   exact .p _ _ _ (lE (z:=i.csz) r (by simp[AV.tE,hl]))
  ·exact r
 ·exact r
theorem qV {g:Gh} {w:World} {dom:Nat->Prop} {ow:Option bg} (vs:List Value) (cs:List AV) (z:List Nat) (hl:vs.length=cs.length) (h1:∀v∈vs,v.oneCell'=true)
 (hx:∀(j:Nat) (v:Value) (c:AV),vs[j]?=some v->cs[j]?=some c->∃ow',aH g w dom ow' v c):aH g w dom ow (.agg vs.toArray) (qH cs z):=by
 unfold qH
 cases h:jm cs z with
 |some l=>
  obtain⟨k1,k2⟩:=jv (g:=g) (w:=w) (dom:=dom) cs z l h;refine .p _ _ _ (.agg vs l (hl.trans k1.symm) h1 fun j v y hv hy=>?_);have hj:j<cs.length:=by have:=(List.getElem?_eq_some_iff.1 hv).1;omega
  obtain⟨ow',hr⟩:=hx j v cs[j] hv (by simp[hj]);exact k2 j v ow' cs[j] y (by simp[hj]) hy hr
 |none=>
  refine .agg _ vs _ (by simp[pW,hl]) h1 fun j v c hv hc=>?_;rw[qM]at hc
  cases hcs:cs[j]? with
  |none=>simp[hcs]at hc
  |some c0=>
   simp only[hcs,Option.map_some,Option.some.injEq]at hc;subst hc;obtain⟨ow',hr⟩:=hx j v c0 hv hcs;exact hr.copy
theorem Fg {g:Gh} {w:World} {dom:Nat->Prop} {ow:Option bg} (vs:List Value) (cs:List AV) (z:List Nat) (hl:vs.length=cs.length) (h1:∀v∈vs,v.oneCell'=true)
 (hx:∀(j:Nat) (v:Value) (c:AV),vs[j]?=some v->cs[j]?=some c->∃ow',aH g w dom ow' v c):aH g w dom ow (.agg vs.toArray) (sP cs z):=by
 unfold sP;split
 ·refine .agg _ vs _ (by simp[pW,hl]) h1 fun j v c hv hc=>?_
  rw[qM]at hc
  cases hcs:cs[j]? with
  |none=>simp[hcs]at hc
  |some c0=>
   simp only[hcs,Option.map_some,Option.some.injEq]at hc;subst hc;obtain⟨ow',hr⟩:=hx j v c0 hv hcs;exact hr.copy
 ·exact qV vs cs z hl h1 hx
theorem tg {g:Gh} {w:World} {dom:Nat->Prop} {ow:Option bg} {v:Value} {x:AV} {cs:List AV} (r:aH g w dom ow v x) (h:x.cells?=some cs):
 v.cells.toList.length=cs.length/\(∀u∈v.cells.toList,u.oneCell'=true)/\
 ∀(j:Nat) (u:Value) (c:AV),v.cells.toList[j]?=some u->cs[j]?=some c->(cs=[x]/\j=0/\u=v/\c=x)\/aH g w dom none u c:=by
 have one:∀{v:Value} {x:AV},v.oneCell'=true->(v.cells=#[v])->some [x]=some cs->v.cells.toList.length=cs.length/\(∀u∈v.cells.toList,u.oneCell'=true)/\
  ∀(j:Nat) (u:Value) (c:AV),v.cells.toList[j]?=some u->cs[j]?=some c->(cs=[x]/\j=0/\u=v/\c=x)\/aH g w dom none u c:=by
  intro v x h1 hc hs;simp only[Option.some.injEq]at hs;subst hs;rw[hc];refine⟨rfl,by simpa using h1,fun j u c hu hcj=>.inl ?_⟩
  cases j with
  |zero=>simp at hu hcj;exact⟨rfl,rfl,hu.symm,hcj.symm⟩
  |succ j=>simp at hu
 cases r with
 |top=>simp[AV.cells?]at h
 |p _ _ y h'=>
  cases h' with
  |agg vs xs hl h1 hx=>
   simp only[AV.cells?,Option.some.injEq]at h;subst h;refine⟨by simp[Value.cells,rJ,hl],by simpa[Value.cells] using h1,fun j u c hu hc=>.inr ?_⟩;rw[sr]at hc
   cases hxs:xs[j]? with
   |none=>simp[hxs]at hc
   |some y=>
    simp only[hxs,Option.map_some,Option.some.injEq]at hc;subst hc;exact .p _ _ _ (hx j u y (by simpa[Value.cells] using hu) hxs)
  |b x=>exact one rfl rfl h
  |i k n=>exact one rfl rfl h
  |s x=>exact one rfl rfl h
  |nil sz=>exact one rfl rfl h
  |sl a cap sz xs f=>exact one rfl rfl h
  |gm=>exact one rfl rfl h
  |tf=>exact one rfl rfl h
  |bH s k a C q=>exact one rfl rfl h
  |kE s k a n cap q hc=>exact one rfl rfl h
  |pa T o1 sz s k m c a C q=>exact one rfl rfl h
  |bx a cs f hs hm hx=>exact one rfl rfl h
  |uY T v x hq=>exact one rfl rfl h
  |wU=>exact one rfl rfl h
  |amp s k a C q=>exact one rfl rfl h
 |c _ _ h1=>exact one h1 (by cases v<;>first|rfl|simp[Value.oneCell']at h1) h
 |wM _ b v h'=>exact one (DV h').1 (DV h').2 h
 |cx=>exact one rfl rfl h
 |es=>exact one rfl rfl h
 |full=>exact one rfl rfl h
 |own=>exact one rfl rfl h
 |ptr=>exact one rfl rfl h
 |vp=>exact one rfl rfl h
 |agg _ vs cs' hl h1 hx=>
  simp only[AV.cells?,Option.some.injEq]at h;subst h;exact⟨by simp[Value.cells,hl],by simpa[Value.cells] using h1,fun j u c hu hc=>.inr (hx j u c (by simpa[Value.cells] using hu) hc)⟩
 |cI=>simp[AV.cells?]at h
 |ar=>exact one rfl rfl h
 |ap=>exact one rfl rfl h
 |fn=>exact one rfl rfl h
def World.push (w:World) (o:Obj):World:={ w with heap:=w.heap.push o }
theorem cN {w:World} {o:Obj} {b:Nat} (h:b<w.heap.size):(World.push w o).heap[b]?=w.heap[b]?:=by
 show(w.heap.push o)[b]?=_;rw[Array.getElem?_push,if_neg (Nat.ne_of_lt h)]
theorem eJ {w:World} {o:Obj}:(World.push w o).heap[w.heap.size]?=some o:=by
 show(w.heap.push o)[w.heap.size]?=_;rw[Array.getElem?_push,if_pos rfl]
theorem fK {w:World} {o:Obj}:(World.push w o).heap.size=w.heap.size+1:=by
 show(w.heap.push o).size=_;rw[Array.size_push]
theorem zq {w:World} {o:Obj} {b i:Nat} (h:b<w.heap.size):(World.push w o).cell? ⟨b,i,none⟩=w.cell? ⟨b,i,none⟩:=by
 simp only[World.cell?,cN h]
theorem KK {w:World} {b i:Nat} {v:Value} (h:w.cell? ⟨b,i,none⟩=some v):b<w.heap.size:=by
 rcases Nat.lt_or_ge b w.heap.size with h1|h1
 ·exact h1
 ·simp[World.cell?,Array.getElem?_eq_none h1]at h
def Gh.new (g:Gh) (B p:Nat) (o:Option bg):Gh:=
 { pre:=fun b=>if b=B then p else g.pre b,own:=fun b=>if b=B then o else g.own b,ρ:=g.ρ,σ:=g.σ,sown:=g.sown }
def Gh.newObj (g:Gh) (B l:Nat):Gh:=
 { pre:=fun b=>if b=B then 0 else g.pre b,own:=fun b=>if b=B then some (.obj l) else g.own b,ρ:=fun k=>if k=l then B else g.ρ k,σ:=g.σ,sown:=g.sown }
theorem OH {g:Gh} {w:World} {b o:Nat} {v:Value} (h:bT g w b o=some v):b<w.heap.size:=by
 simp only[cO]at h;split at h
 ·exact KK h
 ·cases h
theorem nO {g g':Gh} {w:World} {ob:Obj} (hp:∀b,b<w.heap.size->g'.pre b=g.pre b) {b o:Nat} {v:Value} (h:bT g w b o=some v):bT g' (World.push w ob) b o=some v:=by
 have hb:=OH h;simp only[cO]at h ⊢;rw[hp b hb,zq hb];exact h
theorem oh {w:World} {b:Nat} {x:Obj} (h:w.heap[b]?=some x):b<w.heap.size:=(Array.getElem?_eq_some_iff.1 h).1
theorem aH.push {g g':Gh} {w:World} {ob:Obj} {dom dom':Nat->Prop} (hp:∀b,b<w.heap.size->g'.pre b=g.pre b/\g'.own b=g.own b)
 (hd:∀l,dom l->dom' l/\g'.ρ l=g.ρ l) (hbn:∀b o,g.own b=some o->b<w.heap.size)
 {ow:Option bg} {v:Value} {x:AV} (r:aH g w dom ow v x) (hsg:g'.σ=g.σ/\g'.sown=g.sown:=by exact⟨rfl,rfl⟩):aH g' (World.push w ob) dom' ow v x:=
 r.keep (fun _ _ _ h=>nO (fun b hb=>(hp b hb).1) h) hd (fun l cs E h1 hb=>⟨cs,E,by rw[cN (oh hb)];exact hb,rfl⟩)
  (fun o b _ ho=>by have:=hbn b o ho;exact⟨(hp b this).2.trans ho,(hp b this).1,cN this⟩) (hsg:=fun s k a q=>by rw[hsg.1];exact q)
theorem bq.push {g g':Gh} {w:World} {ob:Obj} (hp:∀b,b<w.heap.size->g'.pre b=g.pre b) {v:Value} {x:PV} (r:bq (bT g w) v x) (hsg:g'.σ=g.σ:=by exact rfl):bq (bT g' (World.push w ob)) v x:=
 r.mono (fun _ _ _ h=>nO hp h) (fun s k a q=>by show g'.σ s k=some a;rw[hsg];exact q)
theorem gN.push {g g':Gh} {w:World} {ob:Obj} {dom dom':Nat->Prop} (hp:∀b,b<w.heap.size->g'.pre b=g.pre b/\g'.own b=g.own b)
 (hd:∀l,dom l->dom' l/\g'.ρ l=g.ρ l) (hbn:∀b o,g.own b=some o->b<w.heap.size)
 {l:Nat} (hdl:dom l) {o:bu} (r:gN g w dom l o) (hsg:g'.σ=g.σ/\g'.sown=g.sown:=by exact⟨rfl,rfl⟩):gN g' (World.push w ob) dom' l o:=by
 have e:∀{x:Obj},w.heap[g.ρ l]?=some x->(World.push w ob).heap[g'.ρ l]?=some x:=fun h=>by rw[(hd l hdl).2,cN (oh h)];exact h
 cases r with
 |cells cs vs E hb hlen hx h1=>exact .cells cs vs E (e hb) hlen (fun j v c a b=>(hx j v c a b).push hp hd hbn hsg) h1
 |arr xs vs E hb hlen hx h1=>exact .arr xs vs E (e hb) hlen (fun j v c a b=>(hx j v c a b).push (fun b hb=>(hp b hb).1) hsg.1) h1
 |bJ gb gvs hgl=>exact gN.lM hgl (fun h1 hlt _=>⟨cN hlt,((hp gb hlt).2).trans h1⟩)
 |store T3 o3 sp3 nx3 z3 M3 hst=>exact .store T3 o3 sp3 nx3 z3 M3 (hst.mono (fun _ _ _ h=>nO (fun b hb=>(hp b hb).1) h) (fun bb hbb=>⟨((hp bb (hbn bb _ hbb)).2).trans hbb,cN (hbn bb _ hbb),(hp bb (hbn bb _ hbb)).1⟩) (by rw[hsg.2];exact hst.sown) (fun s k a q=>by rw[hsg.1];exact q) (fun k=>by rw[hsg.1]))
theorem cw.xg {g:Gh} {w:World} {n:Nat} {a:Act} {e:Env} {h:Heap} (s:cw g w n a e h) (ob:Obj) (p:Nat) (o:Option bg):
 cw (g.new w.heap.size p o) (World.push w ob) n a e h:=by
 have hp:∀b,b<w.heap.size->(g.new w.heap.size p o).pre b=g.pre b/\(g.new w.heap.size p o).own b=g.own b:=fun b hb=>by simp[Gh.new,Nat.ne_of_lt hb]
 have hd:∀l,aE h l->aE h l/\(g.new w.heap.size p o).ρ l=g.ρ l:=fun l hl=>⟨hl,rfl⟩
 refine⟨s.defers,s.size,fun i=>(s.env i).push hp hd s.bnd,⟨fun l x hx=>?_,fun l x hx hq=>?_,fun l x hx hq=>?_⟩,fun b x hx=>?_⟩
 ·have hdl:aE h l:=by simp[aE,hx]
  exact(s.heap.obj l x hx).push hp hd s.bnd hdl
 ·have this:=s.heap.own l x hx hq
  show(g.new w.heap.size p o).own (g.ρ l)=_;rw[(hp _ (s.bnd _ _ this)).2];exact this
 ·have this:=s.heap.own l x hx hq
  show(g.new w.heap.size p o).pre (g.ρ l)=_;rw[(hp _ (s.bnd _ _ this)).1];exact s.heap.pre l x hx hq
 ·rw[fK]
  by_cases hb:b=w.heap.size
  ·omega
  ·have:(g.new w.heap.size p o).own b=g.own b:=by simp[Gh.new,hb]
   rw[this]at hx;have:=s.bnd b x hx;omega
theorem gA {w:World} {cs:Array Value} {E:TypeId} (a:Addr):(World.push w (.cells cs E (0,0))).frozen? a=w.frozen? a:=by
 by_cases h:a.block=w.heap.size
 ·simp[World.frozen?,h,eJ]
 ·have:(World.push w (.cells cs E (0,0))).heap[a.block]?=w.heap[a.block]?:=by
   rcases Nat.lt_or_gt_of_ne h with h1|h1
   ·exact cN h1
   ·rw[Array.getElem?_eq_none (by rw[fK];omega),Array.getElem?_eq_none (by omega)]
  simp[World.frozen?,this]
theorem wQ {w:World} {es:Array MapEntry} {c:Nat} (a:Addr):(World.push w (.map es c)).frozen? a=w.frozen? a:=by
 by_cases h:a.block=w.heap.size
 ·simp[World.frozen?,h,eJ]
 ·have:(World.push w (.map es c)).heap[a.block]?=w.heap[a.block]?:=by
   rcases Nat.lt_or_gt_of_ne h with h1|h1
   ·exact cN h1
   ·rw[Array.getElem?_eq_none (by rw[fK];omega),Array.getElem?_eq_none (by omega)]
  simp[World.frozen?,this]
theorem Ext.push {g g':Gh} {w:World} {ob:Obj} (hp:∀b,b<w.heap.size->g'.pre b=g.pre b/\g'.own b=g.own b) (hf:∀a,(World.push w ob).frozen? a=w.frozen? a) (hρ:∀l,bP<=l->g'.ρ l=g.ρ l) (hsg:g'.σ=g.σ/\g'.sown=g.sown:=by exact⟨rfl,rfl⟩):Ext g w g' (World.push w ob):=
 ⟨by rw[fK];omega,rfl,rfl,fun _ _ _ h=>nO (fun b hb=>(hp b hb).1) h,
   fun b hb ho=>⟨cN hb,(hp b hb).1,(hp b hb).2.trans ho⟩,sJ.of hsg.1 hsg.2,fun a _=>hf a,hρ,fun b cs E hb=>⟨cs,E,by rw[cN (Array.getElem?_eq_some_iff.1 hb).1];exact hb,rfl⟩⟩
theorem Db {g:Gh} {B d:Nat} (hd:d<bP) (l:Nat) (hl:bP<=l):(g.newObj B d).ρ l=g.ρ l:=by
 have:l≠d:=by omega
 simp[Gh.newObj,this]
theorem oK {h:Heap} {d:Nat} (hf:fq h d=true):aF h d=none/\d<bP:=by
 unfold fq at hf;split at hf
 ·rename_i hn;exact⟨hn,by rw[Nat.blt_eq]at hf;exact hf⟩
 ·cases hf
theorem cw.Iq {g:Gh} {w:World} {n:Nat} {a:Act} {e:Env} {h:Heap} (s:cw g w n a e h) {d:Nat} (hd0:aF h d=none) (ob:Obj) (x:bu)
 (hx:∀dom',(∀l,aE h l->dom' l)->(∀{ow v y},aH g w (aE h) ow v y->aH (g.newObj w.heap.size d) (World.push w ob) dom' ow v y)->gN (g.newObj w.heap.size d) (World.push w ob) dom' d x):
 cw (g.newObj w.heap.size d) (World.push w ob) n a e ((d,x)::h):=by
 have hne:∀l,aE h l->l≠d:=fun l hl he=>by subst he;simp[aE,hd0]at hl
 have hp:∀b,b<w.heap.size->(g.newObj w.heap.size d).pre b=g.pre b/\(g.newObj w.heap.size d).own b=g.own b:=fun b hb=>by simp[Gh.newObj,Nat.ne_of_lt hb]
 have hdm:∀l,aE h l->aE ((d,x)::h) l:=fun l hl=>by
  unfold aE at hl ⊢;rw[aT (fun e=>hne l hl e.symm)];exact hl
 have hd:∀l,aE h l->aE ((d,x)::h) l/\(g.newObj w.heap.size d).ρ l=g.ρ l:=fun l hl=>⟨hdm l hl,by simp[Gh.newObj,hne l hl]⟩
 refine⟨s.defers,s.size,fun i=>(s.env i).push hp hd s.bnd,⟨fun l y hy=>?_,fun l y hy hq=>?_,fun l y hy hq=>?_⟩,fun b y hy=>?_⟩
 ·by_cases e:d=l
  ·subst e
   rw[aQ]at hy;cases hy;exact hx _ hdm (fun r=>r.push hp hd s.bnd)
  ·rw[aT e]at hy
   have hdl:aE h l:=by simp[aE,hy]
   exact(s.heap.obj l y hy).push hp hd s.bnd hdl
 ·by_cases e:d=l
  ·subst e;simp[Gh.newObj]
  ·rw[aT e]at hy
   have hdl:aE h l:=by simp[aE,hy]
   have this:=s.heap.own l y hy hq;rw[(hd l hdl).2,(hp _ (s.bnd _ _ this)).2];exact this
 ·by_cases e:d=l
  ·subst e;simp[Gh.newObj]
  ·rw[aT e]at hy
   have hdl:aE h l:=by simp[aE,hy]
   have this:=s.heap.own l y hy hq;rw[(hd l hdl).2,(hp _ (s.bnd _ _ this)).1];exact s.heap.pre l y hy hq
 ·rw[fK]
  by_cases hb:b=w.heap.size
  ·omega
  ·have:(g.newObj w.heap.size d).own b=g.own b:=by simp[Gh.newObj,hb]
   rw[this]at hy;have:=s.bnd b y hy;omega
def Gh.relabel (g:Gh) (b:Nat) (o:bg):Gh:={ g with own:=fun b'=>if b'=b then some o else g.own b' }
theorem aH.relabel {g:Gh} {w:World} {dom:Nat->Prop} {b:Nat} {o o':bg} (hb:g.own b=some o) {ow:Option bg} (hne:ow≠some o) {v:Value} {x:AV} (r:aH g w dom ow v x):
 aH (g.relabel b o') w dom ow v x:=
 aH.keep (g:=g) (g':=g.relabel b o') (w:=w) (w':=w) (fun _ _ _ h=>h) (fun l hl=>⟨hl,rfl⟩) (fun l cs E _ h=>⟨cs,E,h,rfl⟩) (fun o1 b1 e1 h1=>by
  have:b1≠b:=fun e=>by subst e;rw[hb]at h1;cases h1;exact hne e1
  exact⟨by simp[Gh.relabel,this,h1],rfl,rfl⟩) r
theorem Ext.relabel {g:Gh} {w:World} {b:Nat} {o o':bg} (hb:g.own b=some o):Ext g w (g.relabel b o') w:=
 ⟨Nat.le_refl _,rfl,rfl,fun _ _ _ h=>h,fun b1 _ ho=>⟨rfl,rfl,by
   have:b1≠b:=fun e=>by subst e;rw[hb]at ho;cases ho
   simp[Gh.relabel,this,ho]⟩,sJ.of rfl rfl,fun _ _=>rfl,fun _ _=>rfl,fun b cs E hb=>⟨cs,E,hb,rfl⟩⟩
theorem gx.relabel {g:Gh} {w:World} {h:Heap} (r:gx g w h) {b t:Nat} {o':bg} (hb:g.own b=some (.slot t)):gx (g.relabel b o') w h:=by
 have hne:∀l x,aF h l=some x->x.dP=true->g.ρ l≠b:=fun l x hx hq e=>by have:=r.own l x hx hq;rw[e,hb]at this;cases this
 refine⟨fun l x hx=>?_,fun l x hx hq=>?_,fun l x hx hq=>r.pre l x hx hq⟩
 ·cases r.obj l x hx with
  |cells cs vs E hb' hl hx' h1=>exact .cells cs vs E hb' hl (fun j v c a b=>(hx' j v c a b).relabel hb (by simp)) h1
  |arr xs vs E hb' hl hx' h1=>exact .arr xs vs E hb' hl hx' h1
  |bJ gb gvs hgl=>exact gN.lM hgl (fun h1 _ _=>⟨rfl,by have hne:gb≠b:=(fun e=>by subst e;rw[hb]at h1;cases h1);simp[Gh.relabel,hne,h1]⟩)
  |store T3 o3 sp3 nx3 z3 M3 hst=>exact .store T3 o3 sp3 nx3 z3 M3 (hst.mono (fun _ _ _ q=>q) (fun bb hbb=>⟨by have hne:bb≠b:=(fun e=>by subst e;rw[hb]at hbb;cases hbb);simp[Gh.relabel,hne,hbb],rfl,rfl⟩) hst.sown)
 ·have:=r.own l x hx hq
  show(g.relabel b o').own (g.ρ l)=_;simp[Gh.relabel,hne l x hx hq,this]
end Go.AM
