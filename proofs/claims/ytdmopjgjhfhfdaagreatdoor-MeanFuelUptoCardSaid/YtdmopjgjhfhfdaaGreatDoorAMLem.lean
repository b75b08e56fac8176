/- Part of a machine over plain values. No conditions. -/
import Derived.Test.YtdmopjgjhfhfdaaGreatDoorAMDefs
import Derived.Laws.Sem
import Derived.Laws.Cells
import Derived.Laws.CopyRow
import Derived.Laws.Entries
set_option linter.all false
section
namespace Go.AM
structure Mm where
 mem:Nat→Nat→Option Value
 sg:Nat→Nat→Option (Nat×Nat)
instance:CoeFun Mm (fun _=>Nat→Nat→Option Value):=⟨Mm.mem⟩
inductive aZ (M:Mm):Value→PV→Prop
 |b (x:Bool):aZ M (.bool x) (.b x)
 |i (k:IntKind) (n:Int):aZ M (.int k n) (.i k n)
 |s (x:ByteArray):aZ M (.string x) (.s x)
 |agg (vs:List Value) (xs:List PV) (hl:vs.length=xs.length) (h1:∀v∈vs,v.oneCell'=true) (hx:∀(j:Nat) (v:Value) (x:PV),vs[j]?=some v→xs[j]?=some x→aZ M v x):aZ M (.agg vs.toArray) (.agg xs)
 |nil (sz:Nat):aZ M (.slice none 0 0) (.sl sz [])
 |sl (a:Addr) (cap sz:Nat) (xs:List PV) (f:Nat→Nat→Value) (hs:cap≠0→a.spot=none) (hc:xs.length≤cap) (hz:∀x∈xs,x.cells.length=sz)
   (hm:∀(j:Nat) (x:PV),xs[j]?=some x→∀(i:Nat) (y:PV),x.cells[i]?=some y→M a.block (a.off+j*sz+i)=some (f j i)∧(f j i).oneCell'=true)
   (hx:∀(j:Nat) (x:PV),xs[j]?=some x→∀(i:Nat) (y:PV),x.cells[i]?=some y→aZ M (f j i) y):
   aZ M (.slice (some a) xs.length cap) (.sl sz xs)
 |fW:aZ M (.pointer none) .fW
 |sj:aZ M (.slice none 0 0) .sj
 |bH (s k a C:Nat) (h:M.sg s k=some (a,C)):aZ M (.pointer (some ⟨a,0,none⟩)) (.bH s k)
 |jR (s k a n cap:Nat) (h:M.sg s k=some (a,cap)) (hc:n≤cap):aZ M (.slice (some ⟨a,0,none⟩) n cap) (.jR s k n)
 |pa (T:Nat) (one:Bool) (sz s k m c a C:Nat) (h:M.sg s k=some (a,C)):aZ M (.pointer (some ⟨a,m*sz+c,none⟩)) (.pa T one sz s k m c)
 |bx (a:Addr) (cs:List PV) (f:Nat→Value) (hs:a.spot=none) (hm:∀(i:Nat) (y:PV),cs[i]?=some y→M a.block (a.off+i)=some (f i)∧(f i).oneCell'=true)
   (hx:∀(i:Nat) (y:PV),cs[i]?=some y→aZ M (f i) y):aZ M (.pointer (some a)) (.bx cs)
 |uq (T:Nat) (v:Value) (x:PV) (h:aZ M v x):aZ M (.iface T v) (.uq T x)
 |vO:aZ M .nilIface .vO
 |amp (s k a C:Nat) (h:M.sg s k=some (a,C)):aZ M (.map (some a)) (.amp s k)
theorem aZ.mono {M M':Mm} (h:∀b o v,M b o=some v→M' b o=some v) {v:Value} {x:PV} (r:aZ M v x) (hs:∀s k a,M.sg s k=some a→M'.sg s k=some a:=by exact fun _ _ _ q=>q):aZ M' v x:=by
 induction r with
 |b x=>exact .b x
 |i k n=>exact .i k n
 |s x=>exact .s x
 |agg vs xs hl h1 _ ih=>exact .agg vs xs hl h1 ih
 |nil sz=>exact .nil sz
 |sl a cap sz xs f hs hc hz hm _ ih=>exact .sl a cap sz xs f hs hc hz (fun j x hj i y hi=>⟨h _ _ _ (hm j x hj i y hi).1,(hm j x hj i y hi).2⟩) ih
 |fW=>exact .fW
 |sj=>exact .sj
 |bH s k a C q=>exact .bH s k a C (hs s k _ q)
 |jR s k a n cap q hc=>exact .jR s k a n cap (hs s k _ q) hc
 |pa T one sz s k m c a C q=>exact .pa T one sz s k m c a C (hs s k _ q)
 |bx a cs f hs2 hm _ ih=>exact .bx a cs f hs2 (fun i y hi=>⟨h _ _ _ (hm i y hi).1,(hm i y hi).2⟩) ih
 |uq T v x _ ih=>exact .uq T v x ih
 |vO=>exact .vO
 |amp s k a C q=>exact .amp s k a C (hs s k _ q)
inductive aY where
 |slot (i:Nat)
 |cell (l j:Nat)
 |obj (l:Nat)
 |ret
 deriving DecidableEq
structure Gh where
 pre:Nat→Nat
 own:Nat→Option aY
 ρ:Nat→Nat
 σ:Nat→Nat→Option (Nat×Nat)
 sown:Nat→Option Nat
def rO (g g':Gh):Prop:=(∀s k a,g.σ s k=some a→g'.σ s k=some a)∧g'.sown=g.sown∧∀s,g.sown s=none→∀k,g'.σ s k=g.σ s k
theorem rO.of {g g':Gh} (h1:g'.σ=g.σ) (h2:g'.sown=g.sown):rO g g':=⟨fun s k a q=>by rw[h1];exact q,h2,fun s _ k=>by rw[h1]⟩
theorem rO.trans {g g' g'':Gh} (h:rO g g') (h':rO g' g''):rO g g'':=
 ⟨fun s k a q=>h'.1 s k a (h.1 s k a q),h'.2.1.trans h.2.1,fun s q k=>(h'.2.2 s (by rw[h.2.1];exact q) k).trans (h.2.2 s q k)⟩
def bR (g:Gh) (w:World):Mm:=⟨fun b o=>if o<g.pre b then w.cell? ⟨b,o,none⟩ else none,g.σ⟩
theorem cI (g:Gh) (w:World) (b o:Nat):bR g w b o=if o<g.pre b then w.cell? ⟨b,o,none⟩ else none:=rfl
def vM:Bool→Value→Prop
 |false,v=>v=.nilIface
 |true,v=>∃T x,v=.iface T x
inductive aH (g:Gh) (w:World) (dom:Nat→Prop):Option aY→Value→AV→Prop
 |top (ow:Option aY) (v:Value):aH g w dom ow v .top
 |p (ow:Option aY) (v:Value) (x:PV) (h:aZ (bR g w) v x):aH g w dom ow v (.p x)
 |c (ow:Option aY) (v:Value) (h1:v.oneCell'=true):aH g w dom ow v (.c v)
 |cu (ow:Option aY):aH g w dom ow (.slice none 0 0) .cu
 |es (ow:Option aY) (a:Addr) (cap sz:Nat) (hs:cap≠0→a.spot=none):aH g w dom ow (.slice (some a) 0 cap) (.es sz)
 |full (ow:Option aY) (a:Option Addr) (sz:Nat) (xs:List PV) (hz:0<sz) (h:aZ (bR g w) (.slice a xs.length xs.length) (.sl sz xs)):aH g w dom ow (.slice a xs.length xs.length) (.so sz xs)
 |own (o:aY) (a:Addr) (cap sz:Nat) (xs:List PV) (cs:Array Value) (E:TypeId) (hz:0<sz) (h:aZ (bR g w) (.slice (some a) xs.length cap) (.sl sz xs))
   (ho:g.own a.block=some o) (hp:g.pre a.block=a.off+xs.length*sz) (hb:w.heap[a.block]?=some (.cells cs E (0,0))) (hs:a.off+cap*sz≤cs.size):
   aH g w dom (some o) (.slice (some a) xs.length cap) (.so sz xs)
 |ptr (ow:Option aY) (l off:Nat) (hd:dom l):aH g w dom ow (.pointer (some ⟨g.ρ l,off,none⟩)) (.ptr l off)
 |vp (ow:Option aY) (a:Addr) (cs:List PV) (f:Nat→Value) (hs:a.spot=none) (hm:∀(i:Nat) (y:PV),cs[i]?=some y→bR g w a.block (a.off+i)=some (f i)∧(f i).oneCell'=true)
   (hx:∀(i:Nat) (y:PV),cs[i]?=some y→aZ (bR g w) (f i) y):aH g w dom ow (.pointer (some a)) (.vp cs)
 |agg (ow:Option aY) (vs:List Value) (cs:List AV) (hl:vs.length=cs.length) (h1:∀v∈vs,v.oneCell'=true) (hx:∀(j:Nat) (v:Value) (c:AV),vs[j]?=some v→cs[j]?=some c→aH g w dom none v c):
   aH g w dom ow (.agg vs.toArray) (.agg cs)
 |cA (ow:Option aY) (vs:List Value) (cs:List AV) (hl:vs.length=cs.length) (hx:∀(j:Nat) (v:Value) (c:AV),vs[j]?=some v→cs[j]?=some c→aH g w dom none v c):
   aH g w dom ow (.tuple vs.toArray) (.cA cs)
 |ar (ow:Option aY) (l n:Nat) (hd:dom l) (hn:∃(cs:Array Value) (E:TypeId),w.heap[g.ρ l]?=some (.cells cs E (0,0))∧cs.size=n):aH g w dom ow (.slice (some ⟨g.ρ l,0,none⟩) n n) (.ar l)
 |ap (ow:Option aY) (l i:Nat) (hd:dom l):aH g w dom ow (.pointer (some ⟨g.ρ l,i,none⟩)) (.ap l i)
 |fn (ow:Option aY) (f:Nat) (fs cs:List Value) (first caps:List AV) (h1:fs.length=first.length) (h2:cs.length=caps.length)
   (hf:∀(j:Nat) (v:Value) (c:AV),fs[j]?=some v→first[j]?=some c→aH g w dom none v c) (hc:∀(j:Nat) (v:Value) (c:AV),cs[j]?=some v→caps[j]?=some c→aH g w dom none v c):
   aH g w dom ow (.func (.func f) fs.toArray cs.toArray) (.fn f first caps)
 |v7 (ow:Option aY) (b:Bool) (v:Value) (h:vM b v):aH g w dom ow v (.v7 b)
theorem DF {b:Bool} {v:Value} (h:vM b v):v.oneCell'=true∧v.cells=#[v]:=by
 cases b with
 |false=>have:v=.nilIface:=h;subst this;exact⟨rfl,rfl⟩
 |true=>obtain⟨T,x,rfl⟩:=h;exact⟨rfl,rfl⟩
theorem aH.keep {g g':Gh} {w w':World} {dom dom':Nat→Prop} (hi:∀b o v,bR g w b o=some v→bR g' w' b o=some v)
 (hd:∀l,dom l→dom' l∧g'.ρ l=g.ρ l) (har:∀l cs E,dom l→w.heap[g.ρ l]?=some (.cells cs E (0,0))→∃cs' E',w'.heap[g.ρ l]?=some (.cells cs' E' (0,0))∧cs'.size=cs.size)
 {ow:Option aY} (ho:∀o b,ow=some o→g.own b=some o→g'.own b=some o∧g'.pre b=g.pre b∧w'.heap[b]?=w.heap[b]?)
 {v:Value} {x:AV} (r:aH g w dom ow v x) (hsg:∀s k a,g.σ s k=some a→g'.σ s k=some a:=by exact fun _ _ _ q=>q):aH g' w' dom' ow v x:=by
 induction r with
 |top ow v=>exact .top ow v
 |p ow v x h=>exact .p ow v x (h.mono hi hsg)
 |c ow v h1=>exact .c ow v h1
 |cu ow=>exact .cu ow
 |es ow a cap sz hs=>exact .es ow a cap sz hs
 |full ow a sz xs hz h=>exact .full ow a sz xs hz (h.mono hi hsg)
 |own o a cap sz xs cs E hz h hw hp hb hs=>
  obtain⟨h1,h2,h3⟩:=ho o a.block rfl hw;exact .own o a cap sz xs cs E hz (h.mono hi hsg) h1 (h2.trans hp) (h3.trans hb) hs
 |ptr ow l off h=>obtain⟨h1,h2⟩:=hd l h;rw[←h2];exact .ptr ow l off h1
 |vp ow a cs f hs hm hx=>exact .vp ow a cs f hs (fun i y h=>⟨hi _ _ _ (hm i y h).1,(hm i y h).2⟩) (fun i y h=>(hx i y h).mono hi hsg)
 |agg ow vs cs hl h1 _ ih=>exact .agg ow vs cs hl h1 (fun j v c h1 h2=>ih j v c h1 h2 (fun _ _ h=>by cases h))
 |cA ow vs cs hl _ ih=>exact .cA ow vs cs hl (fun j v c h1 h2=>ih j v c h1 h2 (fun _ _ h=>by cases h))
 |ar ow l n h hn=>
  obtain⟨h1,h2⟩:=hd l h;obtain⟨cs,E,hb,hs⟩:=hn;obtain⟨cs',E',hb',hs'⟩:=har l cs E h hb;rw[←h2]at hb' ⊢;exact .ar ow l n h1 ⟨cs',E',hb',hs'.trans hs⟩
 |ap ow l i h=>obtain⟨h1,h2⟩:=hd l h;rw[←h2];exact .ap ow l i h1
 |v7 ow b v h=>exact .v7 ow b v h
 |fn ow f fs cs first caps h1 h2 _ _ ih1 ih2=>exact .fn ow f fs cs first caps h1 h2 (fun j v c a b=>ih1 j v c a b (fun _ _ h=>by cases h)) (fun j v c a b=>ih2 j v c a b (fun _ _ h=>by cases h))
theorem aH.copy {g:Gh} {w:World} {dom:Nat→Prop} {ow ow':Option aY} {v:Value} {x:AV} (r:aH g w dom ow v x):aH g w dom ow' v x.copy:=by
 cases r with
 |top=>exact .top _ _
 |p _ _ _ h=>exact .p _ _ _ h
 |c _ _ h1=>exact .c _ _ h1
 |cu=>exact .cu _
 |es _ a cap sz hs=>exact .es _ a cap sz hs
 |full _ a sz xs hz h=>exact .p _ _ _ h
 |own o a cap sz xs cs E hz h=>exact .p _ _ _ h
 |ptr _ l off hd=>exact .ptr _ _ _ hd
 |vp _ a cs f hs hm hx=>exact .vp _ _ _ f hs hm hx
 |agg _ vs cs hl h1 hx=>exact .agg _ _ _ hl h1 hx
 |cA _ vs cs hl hx=>exact .cA _ _ _ hl hx
 |ar _ l n hd hn=>exact .ar _ _ _ hd hn
 |ap _ l i hd=>exact .ap _ _ _ hd
 |v7 _ b v h=>exact .v7 _ b v h
 |fn _ f fs cs first caps h1 h2 hf hc=>exact .fn _ _ _ _ _ _ h1 h2 hf hc
theorem aH.bW {g:Gh} {w:World} {dom:Nat→Prop} {ow ow':Option aY} {v:Value} {x:AV} (hx:∀sz xs,x≠.so sz xs) (r:aH g w dom ow v x):aH g w dom ow' v x:=by
 have e:x.copy=x:=by cases x<;>first|rfl|exact absurd rfl (hx _ _)
 rw[←e];exact r.copy
def aF (h:Heap) (l:Nat):Prop:=(aG h l).isSome=true
def ir (M:Mm) (es:List MapEntry) (xs:List (PV×PV)):Prop:=
 es.length=xs.length∧∀(j:Nat) (e:MapEntry) (x:PV×PV),es[j]?=some e→xs[j]?=some x→aZ M e.key x.1∧aZ M e.val x.2
def me (es:Array MapEntry) (clock:Nat):Prop:=clock=es.size∧∀(j:Nat) (e:MapEntry),es[j]?=some e→e.born=j
def xg (g:Gh) (w:World) (a:Nat×Nat) (sz:Nat) (xs:List PV):Prop:=
 ∃(vs:Array Value) (E:TypeId),w.heap[a.1]?=some (.cells vs E (0,0))∧0<sz∧(xs.length≤a.2∧a.2*sz≤vs.size)∧(∀x∈xs,x.cells.length=sz)∧
  ∀(j:Nat) (x:PV),xs[j]?=some x→∀(i:Nat) (y:PV),x.cells[i]?=some y→∃v,vs[j*sz+i]?=some v∧v.oneCell'=true∧aZ (bR g w) v y
theorem xg.mono {g g':Gh} {w w':World} {a:Nat×Nat} {sz:Nat} {xs:List PV} (h:xg g w a sz xs) (hi:∀b o v,bR g w b o=some v→bR g' w' b o=some v) (hb:w'.heap[a.1]?=w.heap[a.1]?) (hs:∀s k a,g.σ s k=some a→g'.σ s k=some a:=by exact fun _ _ _ q=>q):xg g' w' a sz xs:=by
 obtain⟨vs,E,h1,h2,h3,h4,h6⟩:=h;refine⟨vs,E,hb.trans h1,h2,h3,h4,fun j x hx i y hy=>?_⟩;obtain⟨v,q1,q2,q3⟩:=h6 j x hx i y hy;exact⟨v,q1,q2,q3.mono hi hs⟩
def SMap (g:Gh) (w:World) (b:Nat) (xs:List PV):Prop:=
 ∃(pk:Bool) (es:Array MapEntry) (clock:Nat) (ps:List (PV×PV)),w.heap[b]?=some (.map es clock)∧xs=ps.map (Of pk)∧ir (bR g w) es.toList ps∧(∀x∈ps,MU pk x.1)∧me es clock
def uP (g:Gh) (w:World) (a:Nat×Nat) (sz:Nat) (xs:List PV):Prop:=xg g w a sz xs∨(sz=0∧SMap g w a.1 xs)
theorem uP.mono {g g':Gh} {w w':World} {a:Nat×Nat} {sz:Nat} {xs:List PV} (h:uP g w a sz xs) (hi:∀b o v,bR g w b o=some v→bR g' w' b o=some v) (hb:w'.heap[a.1]?=w.heap[a.1]?) (hs:∀s k a,g.σ s k=some a→g'.σ s k=some a:=by exact fun _ _ _ q=>q):uP g' w' a sz xs:=by
 rcases h with h|⟨h0,pk,es,c,ps,h1,h2,h3,h4⟩
 ·exact .inl (h.mono hi hb hs)
 ·exact .inr ⟨h0,pk,es,c,ps,hb.trans h1,h2,⟨h3.1,fun j e x q1 q2=>⟨(h3.2 j e x q1 q2).1.mono hi hs,(h3.2 j e x q1 q2).2.mono hi hs⟩⟩,h4⟩
structure er (g:Gh) (w:World) (l sp nx sz:Nat) (M:List (Nat×List PV)):Prop where
 sown:g.sown sp=some l
 fresh:∀k,nx≤k→g.σ sp k=none
 row:∀k xs,(k,xs)∈M→∃a,g.σ sp k=some a∧g.own a.1=some (.obj l)∧g.pre a.1=0∧uP g w a sz xs
 inj:∀k k' xs xs' a a',(k,xs)∈M→(k',xs')∈M→g.σ sp k=some a→g.σ sp k'=some a'→a.1=a'.1→k=k'
 nodup:(M.map (·.1)).Nodup
theorem er.D4 {g:Gh} {w:World} {l sp nx sz:Nat} {M:List (Nat×List PV)} (h:er g w l sp nx sz M) (hz:sz≠0) (k:Nat) (xs:List PV) (hk:(k,xs)∈M):∃a,g.σ sp k=some a∧g.own a.1=some (.obj l)∧g.pre a.1=0∧xg g w a sz xs:=by
 obtain⟨a,h1,h2,h3,h4⟩:=h.row k xs hk;rcases h4 with h4|h4
 ·exact⟨a,h1,h2,h3,h4⟩
 ·exact absurd h4.1 hz
theorem er.IL {g:Gh} {w:World} {l sp nx sz:Nat} {M:List (Nat×List PV)} (h:er g w l sp nx sz M) (hz:sz=0) (k:Nat) (xs:List PV) (hk:(k,xs)∈M):∃a,g.σ sp k=some a∧g.own a.1=some (.obj l)∧g.pre a.1=0∧SMap g w a.1 xs:=by
 obtain⟨a,h1,h2,h3,h4⟩:=h.row k xs hk;rcases h4 with⟨_,_,_,q,_⟩|h4
 ·omega
 ·exact⟨a,h1,h2,h3,h4.2⟩
theorem er.mono {g g':Gh} {w w':World} {l l' sp nx sz:Nat} {M:List (Nat×List PV)} (h:er g w l sp nx sz M) (hi:∀b o v,bR g w b o=some v→bR g' w' b o=some v)
 (ho:∀a,g.own a=some (.obj l)→g'.own a=some (.obj l')∧w'.heap[a]?=w.heap[a]?∧g'.pre a=g.pre a) (hw:g'.sown sp=some l') (hs:∀s k a,g.σ s k=some a→g'.σ s k=some a:=by exact fun _ _ _ q=>q)
 (he:∀k,g'.σ sp k=g.σ sp k:=by exact fun _=>rfl):er g' w' l' sp nx sz M:=by
 refine⟨hw,fun k hk=>(he k).trans (h.fresh k hk),fun k xs hk=>?_,fun k k' xs xs' a a' q1 q2 q3 q4=>h.inj k k' xs xs' a a' q1 q2 ((he k).symm.trans q3) ((he k').symm.trans q4),h.nodup⟩;obtain⟨a,h1,h2,h3,h4⟩:=h.row k xs hk;obtain⟨k1,k2,k3⟩:=ho a.1 h2;exact⟨a,(he k).trans h1,k1,k3.trans h3,h4.mono hi k2 hs⟩
inductive gG (g:Gh) (w:World) (dom:Nat→Prop) (l:Nat):br→Prop
 |cells (cs:List AV) (vs:Array Value) (E:TypeId) (hb:w.heap[g.ρ l]?=some (.cells vs E (0,0))) (hl:vs.size=cs.length)
   (hx:∀(j:Nat) (v:Value) (c:AV),vs[j]?=some v→cs[j]?=some c→aH g w dom (some (.cell l j)) v c)
   (h1:∀v∈vs.toList,v.oneCell'=true):gG g w dom l (.cells cs)
 |arr (xs:List PV) (vs:Array Value) (E:TypeId) (hb:w.heap[g.ρ l]?=some (.cells vs E (0,0))) (hl:vs.size=xs.length)
   (hx:∀(j:Nat) (v:Value) (x:PV),vs[j]?=some v→xs[j]?=some x→aZ (bR g w) v x)
   (h1:∀v∈vs.toList,v.oneCell'=true):gG g w dom l (.arr xs)
 |bK (b:Nat) (vs:List Value) (h:g.own b=none∧∃(E:TypeId) (fr:Nat×Nat),w.heap[b]?=some (.cells vs.toArray E fr)):gG g w dom l (.bK b vs)
 |store (T:Nat) (one:Bool) (sp nx sz:Nat) (M:List (Nat×List PV)) (h:er g w l sp nx sz M):gG g w dom l (.store T one sp nx sz M)
theorem gG.kP {g g':Gh} {w w':World} {dom':Nat→Prop} {l b:Nat} {vs:List Value} (h:g.own b=none∧∃(E:TypeId) (fr:Nat×Nat),w.heap[b]?=some (.cells vs.toArray E fr)) (A:g.own b=none→b<w.heap.size→(∃c E fr,w.heap[b]?=some (.cells c E fr))→w'.heap[b]?=w.heap[b]?∧g'.own b=none):gG g' w' dom' l (.bK b vs):=by
 obtain⟨h1,E,fr,h2⟩:=h;obtain⟨q1,q2⟩:=A h1 (Array.getElem?_eq_some_iff.1 h2).1 ⟨_,_,_,h2⟩;exact .bK b vs ⟨q2,E,fr,by rw[q1];exact h2⟩
structure gj (g:Gh) (w:World) (h:Heap):Prop where
 obj:∀l o,aG h l=some o→gG g w (aF h) l o
 own:∀l o,aG h l=some o→o.dK=true→g.own (g.ρ l)=some (.obj l)
 pre:∀l o,aG h l=some o→o.dK=true→g.pre (g.ρ l)=0
structure cp (g:Gh) (w:World) (n:Nat) (a:Act) (e:Env) (h:Heap):Prop where
 defers:a.defers=[]
 size:a.tmps.size=n
 env:∀i,aH g w (aF h) (some (.slot i)) (a.tmps.getD i undef) (aL e i)
 heap:gj g w h
 bnd:∀b o,g.own b=some o→b<w.heap.size
structure Ext (g:Gh) (w:World) (g':Gh) (w':World):Prop where
 size:w.heap.size≤w'.heap.size
 os:w'.os=w.os
 out:w'.output=w.output
 bR:∀b o v,bR g w b o=some v→bR g' w' b o=some v
 kept:∀b,b<w.heap.size→g.own b=none→w'.heap[b]?=w.heap[b]?∧g'.pre b=g.pre b∧g'.own b=none
 tj:rO g g'
 frz':∀a:Addr,a.block<w.heap.size→w'.frozen? a=w.frozen? a
 ρk:∀l,bP≤l→g'.ρ l=g.ρ l
 siz:∀(b:Nat) (cs:Array Value) (E:TypeId),w.heap[b]?=some (.cells cs E (0,0))→∃(cs':Array Value) (E':TypeId),w'.heap[b]?=some (.cells cs' E' (0,0))∧cs'.size=cs.size
theorem Ext.refl (g:Gh) (w:World):Ext g w g w:=
 ⟨Nat.le_refl _,rfl,rfl,fun _ _ _ h=>h,fun _ _ ho=>⟨rfl,rfl,ho⟩,rO.of rfl rfl,fun _ _=>rfl,fun _ _=>rfl,fun b cs E hb=>⟨cs,E,hb,rfl⟩⟩
theorem Ext.trans {g g' g'':Gh} {w w' w'':World} (h:Ext g w g' w') (h':Ext g' w' g'' w''):Ext g w g'' w'':=by
 refine⟨Nat.le_trans h.size h'.size,h'.os.trans h.os,h'.out.trans h.out,fun b o v hv=>h'.bR _ _ _ (h.bR _ _ _ hv),fun b hb ho=>?_,h.tj.trans h'.tj,fun a ha=>?_,fun l hl=>(h'.ρk l hl).trans (h.ρk l hl),fun b cs E hb=>?_⟩
 ·obtain⟨h1,h2,h3⟩:=h.kept b hb ho
  obtain⟨k1,k2,k3⟩:=h'.kept b (Nat.lt_of_lt_of_le hb h.size) h3;exact⟨k1.trans h1,k2.trans h2,k3⟩
 ·rw[h'.frz' a (Nat.lt_of_lt_of_le ha h.size)];exact h.frz' a ha
 ·obtain⟨cs1,E1,q1,q2⟩:=h.siz b cs E hb
  obtain⟨cs2,E2,q3,q4⟩:=h'.siz b cs1 E1 q1;exact⟨cs2,E2,q3,q4.trans q2⟩
end Go.AM
end
section
namespace Go.AM
def LP (P:Program) (t:Nat):Option KD:=match P.underlying t,P.info? t with
 |some .bool,some _=>some .kb
 |some (.int k),some _=>some (.ki k)
 |some .string,some _=>some .ks
 |_,_=>none
def ji (P:Program):Nat→List Field→List KD→Bool
 |_,[],[]=>true
 |n,f::r,k::ks=>Nat.beq f.offset n&&(f.name != "_")&&(LP P f.type==some k)&&Nat.beq (P.cellsOf f.type) 1&&ji P (n+1) r ks
 |_,_,_=>false
def JQ (P:Program) (t:Nat) (ks:List KD):Bool:=!(P.eqGuardType P.depth t)&&(match P.underlying t with
 |some (.struct fs)=>!(P.stoodInHeld t)&&ji P 0 fs.toList ks
 |some (.array m el)=>Nat.beq (P.cellsOf el) 1&&Nat.beq ks.length m&&ks.all (fun k=>LP P el==some k)
 |_=>false)
def Kr (P:Program) (T:Nat) (name:String) (f:Nat):Prop:=∀x w,(method (P.types.size+Made.depth) T x name).run P w=.ok (f,x) w
structure Oo (P:Program) (t:Nat) (i:TI):Prop where
 und:P.underlying t=some i.desc
 inf:∃inf z,P.info? t=some inf∧inf.size=i.size∧inf.bytes=i.bytes∧inf.zero=some z∧z.cells.toList=i.zero∧i.zero.length=i.size
 one:∀v∈i.zero,v.oneCell'=true
 eqs:i.eqs=[]∨JQ P t i.eqs=true
 agz:dr i.desc=true→∃inf z,P.info? t=some inf∧inf.zero=some z∧∃cs,z=.agg cs
 noz:dr i.desc=false→∃inf z,P.info? t=some inf∧inf.zero=some z∧z.cells=#[z]
 mth:∀p∈i.meth,Kr P t p.1 p.2
 plc:∀fs,i.desc=.struct fs→∃places,fs.toList.mapM (fun f=>(P.info? f.type).map fun i=>(f.offset,i.size))=some places
def bz (P:Program) (ty:Nat→Option TI):Prop:=∀t i,ty t=some i→Oo P t i
theorem Oper.cj {P:Program} {o:Oper} {a:Act} {w w':World} {v:Value} {K:Act→World→Prop} {Q:Exit→Act→World→Prop}
 (hr:(execOp a.eval o).run P w=.ok (.value v) w') (h:K (a.put o.dst v) w'):o.wp P a w K Q:=by
 simp only[Oper.wp,hr,Oper.upon];exact h
theorem Oper.wp_skip {P:Program} {o:Oper} {a:Act} {w w':World} {K:Act→World→Prop} {Q:Exit→Act→World→Prop}
 (hr:(execOp a.eval o).run P w=.ok .skip w') (h:K (a.put o.dst undef) w'):o.wp P a w K Q:=by
 simp only[Oper.wp,hr,Oper.upon];exact h
def cF (P:Program) (n:Nat) (o:Oper) (e:Env) (h:Heap) (f:ei):Prop:=
 ∀e' h',(∀t∈slotsOf o,aL e' t=aL e t)→(∀l∈f.rd++f.hw.map (·.1),aG h' l=aG h l)→
  ∀g w a,cp g w n a e' h'→o.wp P a w (fun a' w'=>∃g',cp g' w' n a' (f.ew.reverse++e') (f.hw.reverse++h')∧Ext g w g' w') (fun _ _ _=>False)
theorem beq_false {a b:Nat} (h:a≠b):Nat.beq a b=false:=by
 cases hb:Nat.beq a b with
 |false=>rfl
 |true=>exact absurd (Nat.eq_of_beq_eq_true hb) h
theorem lH (a:Nat):Nat.beq a a=true:=Nat.beq_refl a
theorem bw (d:Nat) (v:AV) (e:Env):aL ((d,v)::e) d=v:=by simp[aL]
theorem bN {d i:Nat} (h:d≠i) (v:AV) (e:Env):aL ((d,v)::e) i=aL e i:=by simp[aL,beq_false h]
theorem aP (d:Nat) (v:br) (e:Heap):aG ((d,v)::e) d=some v:=by simp[aG]
theorem aT {d i:Nat} (h:d≠i) (v:br) (e:Heap):aG ((d,v)::e) i=aG e i:=by simp[aG,beq_false h]
theorem cp.put {g:Gh} {w:World} {n:Nat} {a:Act} {e:Env} {h:Heap} (s:cp g w n a e h) {d:Nat} (hd:d<n) {v:Value} {x:AV}
 (r:aH g w (aF h) (some (.slot d)) v x):cp g w n (a.put (some d) v) ((d,x)::e) h:=by
 refine⟨s.defers,by simp[Act.put,s.size],fun i=>?_,s.heap,s.bnd⟩
 by_cases hi:d=i
 ·subst hi
  rw[bw];have:(a.put (some d) v).tmps.getD d undef=v:=by simp[Act.put,s.size,hd]
  rw[this];exact r
 ·rw[bN hi]
  have:(a.put (some d) v).tmps.getD i undef=a.tmps.getD i undef:=by simp[Act.put,Array.getD_eq_getD_getElem?,hi]
  rw[this];exact s.env i
theorem cp.drew {g:Gh} {w:World} {n:Nat} {a:Act} {e:Env} {h:Heap} {k:Nat} (s:cp g w n a e h):cp g { w with drawn:=k } n a e h:=by
 have key:∀{ow v x},aH g w (aF h) ow v x→aH g { w with drawn:=k } (aF h) ow v x:=fun r=>
  aH.keep (g:=g) (g':=g) (w:=w) (w':={ w with drawn:=k }) (fun _ _ _ h=>h) (fun l hl=>⟨hl,rfl⟩) (fun l cs E _ hb=>⟨cs,E,hb,rfl⟩) (fun o b _ ho=>⟨ho,rfl,rfl⟩) r
 refine⟨s.defers,s.size,fun i=>key (s.env i),⟨fun l o ho=>?_,s.heap.own,s.heap.pre⟩,s.bnd⟩
 cases s.heap.obj l o ho with
 |cells cs vs E hb hl hx h1=>exact .cells cs vs E hb hl (fun j v c h2 h3=>key (hx j v c h2 h3)) h1
 |arr xs vs E hb hl hx h1=>exact .arr xs vs E hb hl hx h1
 |bK gb gvs hgl=>exact .bK gb gvs hgl
 |store T3 o3 sp3 nx3 z3 M3 hst=>exact .store T3 o3 sp3 nx3 z3 M3 (hst.mono (fun _ _ _ q=>q) (fun _ q=>⟨q,rfl,rfl⟩) hst.sown)
theorem Ext.drew {g:Gh} {w:World} {k:Nat}:Ext g w g { w with drawn:=k }:=
 ⟨Nat.le_refl _,rfl,rfl,fun _ _ _ h=>h,fun _ _ ho=>⟨rfl,rfl,ho⟩,rO.of rfl rfl,fun _ _=>rfl,fun _ _=>rfl,fun b cs E hb=>⟨cs,E,hb,rfl⟩⟩
theorem tF {g:Gh} {w:World} {dom:Nat→Prop} {ow:Option aY} (v:Value):aH g w dom ow v (mY v):=by
 unfold mY;split<;>first|exact .p _ _ _ (.b _)|exact .p _ _ _ (.i _ _)|exact .p _ _ _ (.s _)|exact .cu _|exact .p _ _ _ .fW|exact .c _ _ rfl|exact .top _ _
theorem qK:∀(l:List Value) (j:Nat),(gx l)[j]?=(l[j]?).map mY
 | [],j=>by simp[gx]
 |x::r,0=>by simp[gx]
 |x::r,j+1=>by simp[gx,qK r j]
theorem nj:∀(l:List Value),(gx l).length=l.length
 | []=>rfl
 |_::r=>by simp[gx,nj r]
theorem sP:∀{l:List Value},um l=true→∀v∈l,v.oneCell'=true
 | [],_,v,hv=>by cases hv
 |x::r,h,v,hv=>by
  simp only[um,Bool.and_eq_true]at h;rcases List.mem_cons.1 hv with rfl|hv
  ·exact h.1
  ·exact sP h.2 v hv
theorem iC {g:Gh} {w:World} {dom:Nat→Prop} {ow:Option aY} (v:Value):aH g w dom ow v (jE v):=by
 unfold jE;split
 ·rename_i cs
  split
  ·rename_i hc
   refine .agg ow cs (gx cs) (nj cs).symm (sP hc) (fun j v c h1 h2=>?_);rw[qK,h1]at h2;cases h2;exact tF v
  ·exact .top _ _
 ·exact tF _
theorem r8 {v:Value} {sz:Nat} {xs:List PV} (h:jE v=.so sz xs):False:=by
 unfold jE at h;split at h
 ·split at h<;>cases h
 ·unfold mY at h;split at h<;>cases h
theorem cp.ev {g:Gh} {w:World} {n:Nat} {a:Act} {e:Env} {h:Heap} (s:cp g w n a e h) (x:Operand):∃ow,aH g w (aF h) ow (a.eval x) (ev e x):=by
 cases x with
 |tmp t=>exact⟨_,s.env t⟩
 |const v=>exact⟨none,iC v⟩
 |func f=>exact⟨none,.fn none f [] [] [] [] rfl rfl (fun j v c h=>by simp at h) (fun j v c h=>by simp at h)⟩
 |global b=>exact⟨none,.top _ _⟩
theorem DP {o:Oper} {e e':Env} (h:∀t∈slotsOf o,aL e' t=aL e t) {x:Operand} (hx:x∈o.op.operands):ev e' x=ev e x:=by
 cases x with
 |tmp t=>exact h t (by simp only[slotsOf,List.mem_filterMap];exact⟨.tmp t,by simpa using hx,rfl⟩)
 |_=>rfl
theorem cF.ret {P:Program} {n:Nat} {o:Oper} {e:Env} {h:Heap} {rd:List Nat} {x:AV} (hd:∀d,o.dst=some d→d<n)
 (hx:∀e' h',(∀t∈slotsOf o,aL e' t=aL e t)→(∀l∈rd,aG h' l=aG h l)→∀g w a,cp g w n a e' h'→
   ∃v,(execOp a.eval o).run P w=.ok (.value v) w∧∀d,o.dst=some d→aH g w (aF h') (some (.slot d)) v x):
 cF P n o e h (match o.dst with|some d=>⟨rd,[(d,x)],[]⟩|none=>⟨rd,[],[]⟩):=by
 intro e' h' he hh g w a s
 have hrd:∀l∈rd,aG h' l=aG h l:=by
  intro l hl
  cases hdst:o.dst<;>simp only[hdst]at hh<;>exact hh l (by simp[hl])
 obtain⟨v,hr,hv⟩:=hx e' h' he hrd g w a s;refine Oper.cj hr ⟨g,?_,Ext.refl _ _⟩
 cases hdst:o.dst with
 |none=>exact s
 |some d=>exact s.put (hd d hdst) (hv d hdst)
theorem Li {o:Oper} {v:AV} {K:AK} (hk:ret o v K):K (match o.dst with|some d=>⟨[],[(d,v)],[]⟩|none=>⟨[],[],[]⟩):=by
 unfold ret at hk
 cases hd:o.dst<;>simp only[hd,AV.force_eq]at hk<;>exact hk
theorem KS {o:Oper} {l:Nat} {v:AV} {K:AK} (hk:oD o l v K):K (match o.dst with|some d=>⟨[l],[(d,v)],[]⟩|none=>⟨[l],[],[]⟩):=by
 unfold oD at hk
 cases hd:o.dst<;>simp only[hd,AV.force_eq]at hk<;>exact hk
theorem aI {P:Program} {n:Nat} {o:Oper} {e:Env} {h:Heap} {x:AV} {K:AK} (hd:∀d,o.dst=some d→d<n) (hk:Go.AM.ret o x K)
 (hx:∀e' h',(∀t∈slotsOf o,aL e' t=aL e t)→∀g w a,cp g w n a e' h'→
   ∃v,(execOp a.eval o).run P w=.ok (.value v) w∧∀d,o.dst=some d→aH g w (aF h') (some (.slot d)) v x):∃f,K f∧cF P n o e h f:=
 ⟨_,Li hk,cF.ret hd fun e' h' he _=>hx e' h' he⟩
theorem dy {P:Program} {n:Nat} {o:Oper} {e:Env} {h:Heap} {l:Nat} {x:AV} {K:AK} (hd:∀d,o.dst=some d→d<n) (hk:Go.AM.oD o l x K)
 (hx:∀e' h',(∀t∈slotsOf o,aL e' t=aL e t)→aG h' l=aG h l→∀g w a,cp g w n a e' h'→
   ∃v,(execOp a.eval o).run P w=.ok (.value v) w∧∀d,o.dst=some d→aH g w (aF h') (some (.slot d)) v x):∃f,K f∧cF P n o e h f:=
 ⟨_,KS hk,cF.ret hd fun e' h' he hl=>hx e' h' he (hl l (by simp))⟩
end Go.AM
end
section
namespace Go.AM
theorem fZ {α:Type}:∀(cs:List α) (off n:Nat) (l:List α),jb cs off n=some l→l.length=n∧∀j,j<n→l[j]?=cs[off+j]?
 |_,_,0,l,h=>by simp[jb]at h;subst h;simp
 | [],_,_+1,l,h=>by simp[jb]at h
 |x::r,0,n+1,l,h=>by
  simp only[jb]at h
  cases hg:jb r 0 n with
  |none=>simp[hg]at h
  |some l1=>
   simp only[hg,Option.some.injEq]at h;subst h;obtain⟨h1,h2⟩:=fZ r 0 n l1 hg;refine⟨by simp[h1],fun j hj=>?_⟩
   cases j with
   |zero=>simp
   |succ j=>have:=h2 j (by omega);simpa using this
 |x::r,o+1,n+1,l,h=>by
  simp only[jb]at h;obtain⟨h1,h2⟩:=fZ r o (n+1) l h;refine⟨h1,fun j hj=>?_⟩;rw[h2 j hj,show o+1+j=(o+j)+1 by omega];simp
theorem ia {α:Type}:∀(cs:List α) (off:Nat) (ys cs':List α),setAt cs off ys=some cs'→cs'.length=cs.length∧(ys≠[]→off+ys.length≤cs.length)∧
 ∀j,cs'[j]?=if off≤j∧j<off+ys.length then ys[j-off]? else cs[j]?
 |cs,off,[],cs',h=>by
  have:cs'=cs:=by cases cs<;>simpa[setAt] using h.symm
  subst this;refine⟨rfl,by simp,fun j=>?_⟩;rw[if_neg (by simp)]
 | [],off,y::ys,cs',h=>by simp[setAt]at h
 |x::r,0,y::ys,cs',h=>by
  simp only[setAt]at h
  cases hg:setAt r 0 ys with
  |none=>simp[hg]at h
  |some l1=>
   simp only[hg,Option.some.injEq]at h;subst h;obtain⟨h1,h2,h3⟩:=ia r 0 ys l1 hg;refine⟨by simp[h1],fun _=>?_,fun j=>?_⟩
   ·by_cases hy:ys=[]
    ·subst hy;simp
    ·have:=h2 hy;simp at this ⊢;omega
   ·cases j with
    |zero=>simp
    |succ j=>
     have:=h3 j;simp only[List.getElem?_cons_succ,List.length_cons,Nat.zero_le,true_and,Nat.zero_add,Nat.sub_zero]at this ⊢;rw[this]
     by_cases hj:j<ys.length
     ·rw[if_pos hj,if_pos (by omega)]
     ·rw[if_neg hj,if_neg (by omega)]
 |x::r,o+1,y::ys,cs',h=>by
  simp only[setAt]at h
  cases hg:setAt r o (y::ys) with
  |none=>simp[hg]at h
  |some l1=>
   simp only[hg,Option.some.injEq]at h;subst h;obtain⟨h1,h2,h3⟩:=ia r o (y::ys) l1 hg;refine⟨by simp[h1],fun hy=>by have:=h2 hy;simp at this ⊢;omega,fun j=>?_⟩
   cases j with
   |zero=>simp
   |succ j=>
    have:=h3 j;simp only[List.getElem?_cons_succ]at this ⊢;rw[this]
    by_cases hj:o≤j∧j<o+(y::ys).length
    ·rw[if_pos hj,if_pos (by omega)];congr 1;omega
    ·rw[if_neg hj,if_neg (by omega)]
theorem sw:∀(xs:List PV) (j:Nat),(gY xs)[j]?=(xs[j]?).map AV.p
 | [],j=>by simp[gY]
 |x::r,0=>by simp[gY]
 |x::r,j+1=>by simp[gY,sw r j]
theorem qQ (xs:List PV):(gY xs).length=xs.length:=by
 induction xs with
 |nil=>rfl
 |cons x r ih=>simp[gY,ih]
theorem pq:∀(xs:List AV) (j:Nat),(kz xs)[j]?=(xs[j]?).map AV.copy
 | [],j=>by simp[kz]
 |x::r,0=>by simp[kz]
 |x::r,j+1=>by simp[kz,pq r j]
theorem p8 (xs:List AV):(kz xs).length=xs.length:=by
 induction xs with
 |nil=>rfl
 |cons x r ih=>simp[kz,ih]
theorem qu {g:Gh} {w:World} {dom:Nat→Prop} {ow:Option aY} {v:Value} {x:AV} {z:Nat} {y:PV} (r:aH g w dom ow v x) (h:x.lS z=some y):aZ (bR g w) v y:=by
 cases r with
 |p _ _ _ h'=>simp[AV.lS]at h;exact h ▸ h'
 |cu=>
  simp only[AV.lS,Option.some.injEq]at h;subst h
  cases z with
  |zero=>exact .sj
  |succ z=>exact .nil _
 |es _ a cap sz hs=>simp[AV.lS]at h;subst h;exact .sl a cap sz [] (fun _ _=>undef) hs (Nat.zero_le _) (by simp) (by simp) (by simp)
 |full _ a sz xs hz h'=>simp[AV.lS]at h;exact h ▸ h'
 |vp _ a cs f hs hm hx=>simp[AV.lS]at h;subst h;exact .bx a cs f hs hm hx
 |own o a cap sz xs cs E hz h'=>simp[AV.lS]at h;exact h ▸ h'
 |_=>simp[AV.lS]at h
theorem iW {g:Gh} {w:World} {dom:Nat→Prop}:∀(cs:List AV) (z:List Nat) (l:List PV),iL cs z=some l→l.length=cs.length∧
 ∀(j:Nat) (v:Value) (ow:Option aY) (c:AV) (y:PV),cs[j]?=some c→l[j]?=some y→aH g w dom ow v c→aZ (bR g w) v y
 | [],z,l,h=>by simp[iL]at h;subst h;simp
 |c::r,z,l,h=>by
  simp only[iL]at h
  cases h1:c.lS (headD z) with
  |none=>simp[h1]at h
  |some x=>
   cases h2:iL r z.tail with
   |none=>simp[h1,h2]at h
   |some l1=>
    simp only[h1,h2,Option.some.injEq]at h;subst h;obtain⟨k1,k2⟩:=iW (g:=g) (w:=w) (dom:=dom) r z.tail l1 h2;refine⟨by simp[k1],fun j v ow c' y hc hy hr=>?_⟩
    cases j with
    |zero=>simp at hc hy;subst hc;subst hy;exact qu hr h1
    |succ j=>simp at hc hy;exact k2 j v ow c' y hc hy hr
theorem kL {g:Gh} {w:World} {dom:Nat→Prop} {ow:Option aY} {v:Value} {x:AV} {z:List Nat} {y:PV} (r:aH g w dom ow v x) (h:x.tP z=some y):aZ (bR g w) v y:=by
 cases x with
 |agg cs=>
  cases r with
  |agg _ vs _ hl h1 hx=>
   simp only[AV.tP]at h;split at h
   ·rename_i l hl2
    cases h;obtain⟨k1,k2⟩:=iW (g:=g) (w:=w) (dom:=dom) cs z l hl2;refine .agg vs l (hl.trans k1.symm) h1 fun j v y hv hy=>?_;have hj:j<cs.length:=by have:=(List.getElem?_eq_some_iff.1 hv).1;omega
    exact k2 j v none cs[j] y (by simp[hj]) hy (hx j v cs[j] hv (by simp[hj]))
   ·cases h
 |_=>exact qu (z:=headD z) r h
theorem uz {ty:Nat→Option TI} {g:Gh} {w:World} {dom:Nat→Prop} {ow:Option aY} {v:Value} {cs:List AV} (t:Nat) (r:aH g w dom ow v (.agg cs)):aH g w dom ow v (Ag ty t cs):=by
 unfold Ag;split
 ·rename_i i _
  split
  ·rename_i l hl
   exact .p _ _ _ (kL (z:=i.csz) r (by simp[AV.tP,hl]))
  ·exact r
 ·exact r
theorem qh {g:Gh} {w:World} {dom:Nat→Prop} {ow:Option aY} (vs:List Value) (cs:List AV) (z:List Nat) (hl:vs.length=cs.length) (h1:∀v∈vs,v.oneCell'=true)
 (hx:∀(j:Nat) (v:Value) (c:AV),vs[j]?=some v→cs[j]?=some c→∃ow',aH g w dom ow' v c):aH g w dom ow (.agg vs.toArray) (oX cs z):=by
 unfold oX
 cases h:iL cs z with
 |some l=>
  obtain⟨k1,k2⟩:=iW (g:=g) (w:=w) (dom:=dom) cs z l h;refine .p _ _ _ (.agg vs l (hl.trans k1.symm) h1 fun j v y hv hy=>?_);have hj:j<cs.length:=by have:=(List.getElem?_eq_some_iff.1 hv).1;omega
  obtain⟨ow',hr⟩:=hx j v cs[j] hv (by simp[hj]);exact k2 j v ow' cs[j] y (by simp[hj]) hy hr
 |none=>
  refine .agg _ vs _ (by simp[p8,hl]) h1 fun j v c hv hc=>?_;rw[pq]at hc
  cases hcs:cs[j]? with
  |none=>simp[hcs]at hc
  |some c0=>
   simp only[hcs,Option.map_some,Option.some.injEq]at hc;subst hc;obtain⟨ow',hr⟩:=hx j v c0 hv hcs;exact hr.copy
theorem EO {g:Gh} {w:World} {dom:Nat→Prop} {ow:Option aY} (vs:List Value) (cs:List AV) (z:List Nat) (hl:vs.length=cs.length) (h1:∀v∈vs,v.oneCell'=true)
 (hx:∀(j:Nat) (v:Value) (c:AV),vs[j]?=some v→cs[j]?=some c→∃ow',aH g w dom ow' v c):aH g w dom ow (.agg vs.toArray) (rB cs z):=by
 unfold rB;split
 ·refine .agg _ vs _ (by simp[p8,hl]) h1 fun j v c hv hc=>?_
  rw[pq]at hc
  cases hcs:cs[j]? with
  |none=>simp[hcs]at hc
  |some c0=>
   simp only[hcs,Option.map_some,Option.some.injEq]at hc;subst hc;obtain⟨ow',hr⟩:=hx j v c0 hv hcs;exact hr.copy
 ·exact qh vs cs z hl h1 hx
theorem rN {g:Gh} {w:World} {dom:Nat→Prop} {ow:Option aY} {v:Value} {x:AV} {cs:List AV} (r:aH g w dom ow v x) (h:x.cells?=some cs):
 v.cells.toList.length=cs.length∧(∀u∈v.cells.toList,u.oneCell'=true)∧
 ∀(j:Nat) (u:Value) (c:AV),v.cells.toList[j]?=some u→cs[j]?=some c→(cs=[x]∧j=0∧u=v∧c=x)∨aH g w dom none u c:=by
 have one:∀{v:Value} {x:AV},v.oneCell'=true→(v.cells=#[v])→some [x]=some cs→v.cells.toList.length=cs.length∧(∀u∈v.cells.toList,u.oneCell'=true)∧
  ∀(j:Nat) (u:Value) (c:AV),v.cells.toList[j]?=some u→cs[j]?=some c→(cs=[x]∧j=0∧u=v∧c=x)∨aH g w dom none u c:=by
  intro v x h1 hc hs;simp only[Option.some.injEq]at hs;subst hs;rw[hc];refine⟨rfl,by simpa using h1,fun j u c hu hcj=>.inl ?_⟩
  cases j with
  |zero=>simp at hu hcj;exact⟨rfl,rfl,hu.symm,hcj.symm⟩
  |succ j=>simp at hu
 cases r with
 |top=>simp[AV.cells?]at h
 |p _ _ y h'=>
  cases h' with
  |agg vs xs hl h1 hx=>
   simp only[AV.cells?,Option.some.injEq]at h;subst h;refine⟨by simp[Value.cells,qQ,hl],by simpa[Value.cells] using h1,fun j u c hu hc=>.inr ?_⟩;rw[sw]at hc
   cases hxs:xs[j]? with
   |none=>simp[hxs]at hc
   |some y=>
    simp only[hxs,Option.map_some,Option.some.injEq]at hc;subst hc;exact .p _ _ _ (hx j u y (by simpa[Value.cells] using hu) hxs)
  |b x=>exact one rfl rfl h
  |i k n=>exact one rfl rfl h
  |s x=>exact one rfl rfl h
  |nil sz=>exact one rfl rfl h
  |sl a cap sz xs f=>exact one rfl rfl h
  |fW=>exact one rfl rfl h
  |sj=>exact one rfl rfl h
  |bH s k a C q=>exact one rfl rfl h
  |jR s k a n cap q hc=>exact one rfl rfl h
  |pa T o1 sz s k m c a C q=>exact one rfl rfl h
  |bx a cs f hs hm hx=>exact one rfl rfl h
  |uq T v x hq=>exact one rfl rfl h
  |vO=>exact one rfl rfl h
  |amp s k a C q=>exact one rfl rfl h
 |c _ _ h1=>exact one h1 (by cases v<;>first|rfl|simp[Value.oneCell']at h1) h
 |v7 _ b v h'=>exact one (DF h').1 (DF h').2 h
 |cu=>exact one rfl rfl h
 |es=>exact one rfl rfl h
 |full=>exact one rfl rfl h
 |own=>exact one rfl rfl h
 |ptr=>exact one rfl rfl h
 |vp=>exact one rfl rfl h
 |agg _ vs cs' hl h1 hx=>
  simp only[AV.cells?,Option.some.injEq]at h;subst h;exact⟨by simp[Value.cells,hl],by simpa[Value.cells] using h1,fun j u c hu hc=>.inr (hx j u c (by simpa[Value.cells] using hu) hc)⟩
 |cA=>simp[AV.cells?]at h
 |ar=>exact one rfl rfl h
 |ap=>exact one rfl rfl h
 |fn=>exact one rfl rfl h
end Go.AM
end
