/- Part of a machine over plain values. No conditions. -/
import Derived.Test.YtdmopjgjhfhfdaaGreatDoorAMDefs
import Derived.Laws.Sem
import Derived.Laws.Cells
import Derived.Laws.CopyRow
import Derived.Laws.Entries
namespace Go.AM
structure Mm where
 mem:Nat→Nat→Option Value
 sg:Nat→Nat→Option (Nat×Nat)
instance:CoeFun Mm (fun _=>Nat→Nat→Option Value):=⟨Mm.mem⟩
inductive PRel (M:Mm):Value→PV→Prop
 |b (x:Bool):PRel M (.bool x) (.b x)
 |i (k:IntKind) (n:Int):PRel M (.int k n) (.i k n)
 |s (x:ByteArray):PRel M (.string x) (.s x)
 |agg (vs:List Value) (xs:List PV) (hl:vs.length=xs.length) (h1:∀v∈vs,v.oneCell'=true) (hx:∀(j:Nat) (v:Value) (x:PV),vs[j]?=some v→xs[j]?=some x→PRel M v x):PRel M (.agg vs.toArray) (.agg xs)
 |nil (sz:Nat):PRel M (.slice none 0 0) (.sl sz [])
 |sl (a:Addr) (cap sz:Nat) (xs:List PV) (f:Nat→Nat→Value) (hs:cap≠0→a.spot=none) (hc:xs.length≤cap) (hz:∀x∈xs,x.cells.length=sz)
   (hm:∀(j:Nat) (x:PV),xs[j]?=some x→∀(i:Nat) (y:PV),x.cells[i]?=some y→M a.block (a.off+j*sz+i)=some (f j i)∧(f j i).oneCell'=true)
   (hx:∀(j:Nat) (x:PV),xs[j]?=some x→∀(i:Nat) (y:PV),x.cells[i]?=some y→PRel M (f j i) y):
   PRel M (.slice (some a) xs.length cap) (.sl sz xs)
 |nilp:PRel M (.pointer none) .nilp
 |nsl:PRel M (.slice none 0 0) .nsl
 |adr (s k a C:Nat) (h:M.sg s k=some (a,C)):PRel M (.pointer (some ⟨a,0,none⟩)) (.adr s k)
 |ads (s k a n cap:Nat) (h:M.sg s k=some (a,cap)) (hc:n≤cap):PRel M (.slice (some ⟨a,0,none⟩) n cap) (.ads s k n)
 |pa (T:Nat) (one:Bool) (sz s k m c a C:Nat) (h:M.sg s k=some (a,C)):PRel M (.pointer (some ⟨a,m*sz+c,none⟩)) (.pa T one sz s k m c)
 |bx (a:Addr) (cs:List PV) (f:Nat→Value) (hs:a.spot=none) (hm:∀(i:Nat) (y:PV),cs[i]?=some y→M a.block (a.off+i)=some (f i)∧(f i).oneCell'=true)
   (hx:∀(i:Nat) (y:PV),cs[i]?=some y→PRel M (f i) y):PRel M (.pointer (some a)) (.bx cs)
 |ifv (T:Nat) (v:Value) (x:PV) (h:PRel M v x):PRel M (.iface T v) (.ifv T x)
 |nifc:PRel M .nilIface .nifc
 |amp (s k a C:Nat) (h:M.sg s k=some (a,C)):PRel M (.map (some a)) (.amp s k)
theorem PRel.mono {M M':Mm} (h:∀b o v,M b o=some v→M' b o=some v) {v:Value} {x:PV} (r:PRel M v x) (hs:∀s k a,M.sg s k=some a→M'.sg s k=some a:=by exact fun _ _ _ q=>q):PRel M' v x:=by
 induction r with
 |b x=>exact .b x
 |i k n=>exact .i k n
 |s x=>exact .s x
 |agg vs xs hl h1 _ ih=>exact .agg vs xs hl h1 ih
 |nil sz=>exact .nil sz
 |sl a cap sz xs f hs hc hz hm _ ih=>exact .sl a cap sz xs f hs hc hz (fun j x hj i y hi=>⟨h _ _ _ (hm j x hj i y hi).1,(hm j x hj i y hi).2⟩) ih
 |nilp=>exact .nilp
 |nsl=>exact .nsl
 |adr s k a C q=>exact .adr s k a C (hs s k _ q)
 |ads s k a n cap q hc=>exact .ads s k a n cap (hs s k _ q) hc
 |pa T one sz s k m c a C q=>exact .pa T one sz s k m c a C (hs s k _ q)
 |bx a cs f hs2 hm _ ih=>exact .bx a cs f hs2 (fun i y hi=>⟨h _ _ _ (hm i y hi).1,(hm i y hi).2⟩) ih
 |ifv T v x _ ih=>exact .ifv T v x ih
 |nifc=>exact .nifc
 |amp s k a C q=>exact .amp s k a C (hs s k _ q)
inductive Owner where
 |slot (i:Nat)
 |cell (l j:Nat)
 |obj (l:Nat)
 |ret
 deriving DecidableEq
structure Gh where
 pre:Nat→Nat
 own:Nat→Option Owner
 ρ:Nat→Nat
 σ:Nat→Nat→Option (Nat×Nat)
 sown:Nat→Option Nat
def SgLe (g g':Gh):Prop:=(∀s k a,g.σ s k=some a→g'.σ s k=some a)∧g'.sown=g.sown∧∀s,g.sown s=none→∀k,g'.σ s k=g.σ s k
theorem SgLe.of {g g':Gh} (h1:g'.σ=g.σ) (h2:g'.sown=g.sown):SgLe g g':=⟨fun s k a q=>by rw[h1];exact q,h2,fun s _ k=>by rw[h1]⟩
theorem SgLe.trans {g g' g'':Gh} (h:SgLe g g') (h':SgLe g' g''):SgLe g g'':=
 ⟨fun s k a q=>h'.1 s k a (h.1 s k a q),h'.2.1.trans h.2.1,fun s q k=>(h'.2.2 s (by rw[h.2.1];exact q) k).trans (h.2.2 s q k)⟩
def imm (g:Gh) (w:World):Mm:=⟨fun b o=>if o<g.pre b then w.cell? ⟨b,o,none⟩ else none,g.σ⟩
theorem imm_eq (g:Gh) (w:World) (b o:Nat):imm g w b o=if o<g.pre b then w.cell? ⟨b,o,none⟩ else none:=rfl
def ifcOK:Bool→Value→Prop
 |false,v=>v=.nilIface
 |true,v=>∃T x,v=.iface T x
inductive VRel (g:Gh) (w:World) (dom:Nat→Prop):Option Owner→Value→AV→Prop
 |top (ow:Option Owner) (v:Value):VRel g w dom ow v .top
 |p (ow:Option Owner) (v:Value) (x:PV) (h:PRel (imm g w) v x):VRel g w dom ow v (.p x)
 |c (ow:Option Owner) (v:Value) (h1:v.oneCell'=true):VRel g w dom ow v (.c v)
 |nilS (ow:Option Owner):VRel g w dom ow (.slice none 0 0) .nilS
 |es (ow:Option Owner) (a:Addr) (cap sz:Nat) (hs:cap≠0→a.spot=none):VRel g w dom ow (.slice (some a) 0 cap) (.es sz)
 |full (ow:Option Owner) (a:Option Addr) (sz:Nat) (xs:List PV) (hz:0<sz) (h:PRel (imm g w) (.slice a xs.length xs.length) (.sl sz xs)):VRel g w dom ow (.slice a xs.length xs.length) (.so sz xs)
 |own (o:Owner) (a:Addr) (cap sz:Nat) (xs:List PV) (cs:Array Value) (E:TypeId) (hz:0<sz) (h:PRel (imm g w) (.slice (some a) xs.length cap) (.sl sz xs))
   (ho:g.own a.block=some o) (hp:g.pre a.block=a.off+xs.length*sz) (hb:w.heap[a.block]?=some (.cells cs E (0,0))) (hs:a.off+cap*sz≤cs.size):
   VRel g w dom (some o) (.slice (some a) xs.length cap) (.so sz xs)
 |ptr (ow:Option Owner) (l off:Nat) (hd:dom l):VRel g w dom ow (.pointer (some ⟨g.ρ l,off,none⟩)) (.ptr l off)
 |vp (ow:Option Owner) (a:Addr) (cs:List PV) (f:Nat→Value) (hs:a.spot=none) (hm:∀(i:Nat) (y:PV),cs[i]?=some y→imm g w a.block (a.off+i)=some (f i)∧(f i).oneCell'=true)
   (hx:∀(i:Nat) (y:PV),cs[i]?=some y→PRel (imm g w) (f i) y):VRel g w dom ow (.pointer (some a)) (.vp cs)
 |agg (ow:Option Owner) (vs:List Value) (cs:List AV) (hl:vs.length=cs.length) (h1:∀v∈vs,v.oneCell'=true) (hx:∀(j:Nat) (v:Value) (c:AV),vs[j]?=some v→cs[j]?=some c→VRel g w dom none v c):
   VRel g w dom ow (.agg vs.toArray) (.agg cs)
 |tup (ow:Option Owner) (vs:List Value) (cs:List AV) (hl:vs.length=cs.length) (hx:∀(j:Nat) (v:Value) (c:AV),vs[j]?=some v→cs[j]?=some c→VRel g w dom none v c):
   VRel g w dom ow (.tuple vs.toArray) (.tup cs)
 |ar (ow:Option Owner) (l n:Nat) (hd:dom l) (hn:∃(cs:Array Value) (E:TypeId),w.heap[g.ρ l]?=some (.cells cs E (0,0))∧cs.size=n):VRel g w dom ow (.slice (some ⟨g.ρ l,0,none⟩) n n) (.ar l)
 |ap (ow:Option Owner) (l i:Nat) (hd:dom l):VRel g w dom ow (.pointer (some ⟨g.ρ l,i,none⟩)) (.ap l i)
 |fn (ow:Option Owner) (f:Nat) (fs cs:List Value) (first caps:List AV) (h1:fs.length=first.length) (h2:cs.length=caps.length)
   (hf:∀(j:Nat) (v:Value) (c:AV),fs[j]?=some v→first[j]?=some c→VRel g w dom none v c) (hc:∀(j:Nat) (v:Value) (c:AV),cs[j]?=some v→caps[j]?=some c→VRel g w dom none v c):
   VRel g w dom ow (.func (.func f) fs.toArray cs.toArray) (.fn f first caps)
 |ifc (ow:Option Owner) (b:Bool) (v:Value) (h:ifcOK b v):VRel g w dom ow v (.ifc b)
theorem ifc_cell {b:Bool} {v:Value} (h:ifcOK b v):v.oneCell'=true∧v.cells=#[v]:=by
 cases b with
 |false=>have:v=.nilIface:=h;subst this;exact⟨rfl,rfl⟩
 |true=>obtain⟨T,x,rfl⟩:=h;exact⟨rfl,rfl⟩
theorem VRel.keep {g g':Gh} {w w':World} {dom dom':Nat→Prop} (hi:∀b o v,imm g w b o=some v→imm g' w' b o=some v)
 (hd:∀l,dom l→dom' l∧g'.ρ l=g.ρ l) (har:∀l cs E,dom l→w.heap[g.ρ l]?=some (.cells cs E (0,0))→∃cs' E',w'.heap[g.ρ l]?=some (.cells cs' E' (0,0))∧cs'.size=cs.size)
 {ow:Option Owner} (ho:∀o b,ow=some o→g.own b=some o→g'.own b=some o∧g'.pre b=g.pre b∧w'.heap[b]?=w.heap[b]?)
 {v:Value} {x:AV} (r:VRel g w dom ow v x) (hsg:∀s k a,g.σ s k=some a→g'.σ s k=some a:=by exact fun _ _ _ q=>q):VRel g' w' dom' ow v x:=by
 induction r with
 |top ow v=>exact .top ow v
 |p ow v x h=>exact .p ow v x (h.mono hi hsg)
 |c ow v h1=>exact .c ow v h1
 |nilS ow=>exact .nilS ow
 |es ow a cap sz hs=>exact .es ow a cap sz hs
 |full ow a sz xs hz h=>exact .full ow a sz xs hz (h.mono hi hsg)
 |own o a cap sz xs cs E hz h hw hp hb hs=>
  obtain⟨h1,h2,h3⟩:=ho o a.block rfl hw;exact .own o a cap sz xs cs E hz (h.mono hi hsg) h1 (h2.trans hp) (h3.trans hb) hs
 |ptr ow l off h=>obtain⟨h1,h2⟩:=hd l h;rw[←h2];exact .ptr ow l off h1
 |vp ow a cs f hs hm hx=>exact .vp ow a cs f hs (fun i y h=>⟨hi _ _ _ (hm i y h).1,(hm i y h).2⟩) (fun i y h=>(hx i y h).mono hi hsg)
 |agg ow vs cs hl h1 _ ih=>exact .agg ow vs cs hl h1 (fun j v c h1 h2=>ih j v c h1 h2 (fun _ _ h=>by cases h))
 |tup ow vs cs hl _ ih=>exact .tup ow vs cs hl (fun j v c h1 h2=>ih j v c h1 h2 (fun _ _ h=>by cases h))
 |ar ow l n h hn=>
  obtain⟨h1,h2⟩:=hd l h;obtain⟨cs,E,hb,hs⟩:=hn;obtain⟨cs',E',hb',hs'⟩:=har l cs E h hb;rw[←h2]at hb' ⊢;exact .ar ow l n h1 ⟨cs',E',hb',hs'.trans hs⟩
 |ap ow l i h=>obtain⟨h1,h2⟩:=hd l h;rw[←h2];exact .ap ow l i h1
 |ifc ow b v h=>exact .ifc ow b v h
 |fn ow f fs cs first caps h1 h2 _ _ ih1 ih2=>exact .fn ow f fs cs first caps h1 h2 (fun j v c a b=>ih1 j v c a b (fun _ _ h=>by cases h)) (fun j v c a b=>ih2 j v c a b (fun _ _ h=>by cases h))
theorem VRel.copy {g:Gh} {w:World} {dom:Nat→Prop} {ow ow':Option Owner} {v:Value} {x:AV} (r:VRel g w dom ow v x):VRel g w dom ow' v x.copy:=by
 cases r with
 |top=>exact .top _ _
 |p _ _ _ h=>exact .p _ _ _ h
 |c _ _ h1=>exact .c _ _ h1
 |nilS=>exact .nilS _
 |es _ a cap sz hs=>exact .es _ a cap sz hs
 |full _ a sz xs hz h=>exact .p _ _ _ h
 |own o a cap sz xs cs E hz h=>exact .p _ _ _ h
 |ptr _ l off hd=>exact .ptr _ _ _ hd
 |vp _ a cs f hs hm hx=>exact .vp _ _ _ f hs hm hx
 |agg _ vs cs hl h1 hx=>exact .agg _ _ _ hl h1 hx
 |tup _ vs cs hl hx=>exact .tup _ _ _ hl hx
 |ar _ l n hd hn=>exact .ar _ _ _ hd hn
 |ap _ l i hd=>exact .ap _ _ _ hd
 |ifc _ b v h=>exact .ifc _ b v h
 |fn _ f fs cs first caps h1 h2 hf hc=>exact .fn _ _ _ _ _ _ h1 h2 hf hc
theorem VRel.anyOwner {g:Gh} {w:World} {dom:Nat→Prop} {ow ow':Option Owner} {v:Value} {x:AV} (hx:∀sz xs,x≠.so sz xs) (r:VRel g w dom ow v x):VRel g w dom ow' v x:=by
 have e:x.copy=x:=by cases x<;>first|rfl|exact absurd rfl (hx _ _)
 rw[←e];exact r.copy
def domOf (h:Heap) (l:Nat):Prop:=(hget h l).isSome=true
def entriesRel (M:Mm) (es:List MapEntry) (xs:List (PV×PV)):Prop:=
 es.length=xs.length∧∀(j:Nat) (e:MapEntry) (x:PV×PV),es[j]?=some e→xs[j]?=some x→PRel M e.key x.1∧PRel M e.val x.2
def MapOK (es:Array MapEntry) (clock:Nat):Prop:=clock=es.size∧∀(j:Nat) (e:MapEntry),es[j]?=some e→e.born=j
def SCells (g:Gh) (w:World) (a:Nat×Nat) (sz:Nat) (xs:List PV):Prop:=
 ∃(vs:Array Value) (E:TypeId),w.heap[a.1]?=some (.cells vs E (0,0))∧0<sz∧(xs.length≤a.2∧a.2*sz≤vs.size)∧(∀x∈xs,x.cells.length=sz)∧
  ∀(j:Nat) (x:PV),xs[j]?=some x→∀(i:Nat) (y:PV),x.cells[i]?=some y→∃v,vs[j*sz+i]?=some v∧v.oneCell'=true∧PRel (imm g w) v y
theorem SCells.mono {g g':Gh} {w w':World} {a:Nat×Nat} {sz:Nat} {xs:List PV} (h:SCells g w a sz xs) (hi:∀b o v,imm g w b o=some v→imm g' w' b o=some v) (hb:w'.heap[a.1]?=w.heap[a.1]?) (hs:∀s k a,g.σ s k=some a→g'.σ s k=some a:=by exact fun _ _ _ q=>q):SCells g' w' a sz xs:=by
 obtain⟨vs,E,h1,h2,h3,h4,h6⟩:=h;refine⟨vs,E,hb.trans h1,h2,h3,h4,fun j x hx i y hy=>?_⟩;obtain⟨v,q1,q2,q3⟩:=h6 j x hx i y hy;exact⟨v,q1,q2,q3.mono hi hs⟩
def SMap (g:Gh) (w:World) (b:Nat) (xs:List PV):Prop:=
 ∃(pk:Bool) (es:Array MapEntry) (clock:Nat) (ps:List (PV×PV)),w.heap[b]?=some (.map es clock)∧xs=ps.map (mkx pk)∧entriesRel (imm g w) es.toList ps∧(∀x∈ps,keyX pk x.1)∧MapOK es clock
def SBlk (g:Gh) (w:World) (a:Nat×Nat) (sz:Nat) (xs:List PV):Prop:=SCells g w a sz xs∨(sz=0∧SMap g w a.1 xs)
theorem SBlk.mono {g g':Gh} {w w':World} {a:Nat×Nat} {sz:Nat} {xs:List PV} (h:SBlk g w a sz xs) (hi:∀b o v,imm g w b o=some v→imm g' w' b o=some v) (hb:w'.heap[a.1]?=w.heap[a.1]?) (hs:∀s k a,g.σ s k=some a→g'.σ s k=some a:=by exact fun _ _ _ q=>q):SBlk g' w' a sz xs:=by
 rcases h with h|⟨h0,pk,es,c,ps,h1,h2,h3,h4⟩
 ·exact .inl (h.mono hi hb hs)
 ·exact .inr ⟨h0,pk,es,c,ps,hb.trans h1,h2,⟨h3.1,fun j e x q1 q2=>⟨(h3.2 j e x q1 q2).1.mono hi hs,(h3.2 j e x q1 q2).2.mono hi hs⟩⟩,h4⟩
structure StoreOK (g:Gh) (w:World) (l sp nx sz:Nat) (M:List (Nat×List PV)):Prop where
 sown:g.sown sp=some l
 fresh:∀k,nx≤k→g.σ sp k=none
 row:∀k xs,(k,xs)∈M→∃a,g.σ sp k=some a∧g.own a.1=some (.obj l)∧g.pre a.1=0∧SBlk g w a sz xs
 inj:∀k k' xs xs' a a',(k,xs)∈M→(k',xs')∈M→g.σ sp k=some a→g.σ sp k'=some a'→a.1=a'.1→k=k'
 nodup:(M.map (·.1)).Nodup
theorem StoreOK.rowC {g:Gh} {w:World} {l sp nx sz:Nat} {M:List (Nat×List PV)} (h:StoreOK g w l sp nx sz M) (hz:sz≠0) (k:Nat) (xs:List PV) (hk:(k,xs)∈M):∃a,g.σ sp k=some a∧g.own a.1=some (.obj l)∧g.pre a.1=0∧SCells g w a sz xs:=by
 obtain⟨a,h1,h2,h3,h4⟩:=h.row k xs hk;rcases h4 with h4|h4
 ·exact⟨a,h1,h2,h3,h4⟩
 ·exact absurd h4.1 hz
theorem StoreOK.rowM {g:Gh} {w:World} {l sp nx sz:Nat} {M:List (Nat×List PV)} (h:StoreOK g w l sp nx sz M) (hz:sz=0) (k:Nat) (xs:List PV) (hk:(k,xs)∈M):∃a,g.σ sp k=some a∧g.own a.1=some (.obj l)∧g.pre a.1=0∧SMap g w a.1 xs:=by
 obtain⟨a,h1,h2,h3,h4⟩:=h.row k xs hk;rcases h4 with⟨_,_,_,q,_⟩|h4
 ·omega
 ·exact⟨a,h1,h2,h3,h4.2⟩
theorem StoreOK.mono {g g':Gh} {w w':World} {l l' sp nx sz:Nat} {M:List (Nat×List PV)} (h:StoreOK g w l sp nx sz M) (hi:∀b o v,imm g w b o=some v→imm g' w' b o=some v)
 (ho:∀a,g.own a=some (.obj l)→g'.own a=some (.obj l')∧w'.heap[a]?=w.heap[a]?∧g'.pre a=g.pre a) (hw:g'.sown sp=some l') (hs:∀s k a,g.σ s k=some a→g'.σ s k=some a:=by exact fun _ _ _ q=>q)
 (he:∀k,g'.σ sp k=g.σ sp k:=by exact fun _=>rfl):StoreOK g' w' l' sp nx sz M:=by
 refine⟨hw,fun k hk=>(he k).trans (h.fresh k hk),fun k xs hk=>?_,fun k k' xs xs' a a' q1 q2 q3 q4=>h.inj k k' xs xs' a a' q1 q2 ((he k).symm.trans q3) ((he k').symm.trans q4),h.nodup⟩;obtain⟨a,h1,h2,h3,h4⟩:=h.row k xs hk;obtain⟨k1,k2,k3⟩:=ho a.1 h2;exact⟨a,(he k).trans h1,k1,k3.trans h3,h4.mono hi k2 hs⟩
inductive ORel (g:Gh) (w:World) (dom:Nat→Prop) (l:Nat):AObj→Prop
 |cells (cs:List AV) (vs:Array Value) (E:TypeId) (hb:w.heap[g.ρ l]?=some (.cells vs E (0,0))) (hl:vs.size=cs.length)
   (hx:∀(j:Nat) (v:Value) (c:AV),vs[j]?=some v→cs[j]?=some c→VRel g w dom (some (.cell l j)) v c)
   (h1:∀v∈vs.toList,v.oneCell'=true):ORel g w dom l (.cells cs)
 |arr (xs:List PV) (vs:Array Value) (E:TypeId) (hb:w.heap[g.ρ l]?=some (.cells vs E (0,0))) (hl:vs.size=xs.length)
   (hx:∀(j:Nat) (v:Value) (x:PV),vs[j]?=some v→xs[j]?=some x→PRel (imm g w) v x)
   (h1:∀v∈vs.toList,v.oneCell'=true):ORel g w dom l (.arr xs)
 |glob (b:Nat) (vs:List Value) (h:g.own b=none∧∃(E:TypeId) (fr:Nat×Nat),w.heap[b]?=some (.cells vs.toArray E fr)):ORel g w dom l (.glob b vs)
 |store (T:Nat) (one:Bool) (sp nx sz:Nat) (M:List (Nat×List PV)) (h:StoreOK g w l sp nx sz M):ORel g w dom l (.store T one sp nx sz M)
theorem ORel.globM {g g':Gh} {w w':World} {dom':Nat→Prop} {l b:Nat} {vs:List Value} (h:g.own b=none∧∃(E:TypeId) (fr:Nat×Nat),w.heap[b]?=some (.cells vs.toArray E fr)) (A:g.own b=none→b<w.heap.size→(∃c E fr,w.heap[b]?=some (.cells c E fr))→w'.heap[b]?=w.heap[b]?∧g'.own b=none):ORel g' w' dom' l (.glob b vs):=by
 obtain⟨h1,E,fr,h2⟩:=h;obtain⟨q1,q2⟩:=A h1 (Array.getElem?_eq_some_iff.1 h2).1 ⟨_,_,_,h2⟩;exact .glob b vs ⟨q2,E,fr,by rw[q1];exact h2⟩
structure HRel (g:Gh) (w:World) (h:Heap):Prop where
 obj:∀l o,hget h l=some o→ORel g w (domOf h) l o
 own:∀l o,hget h l=some o→o.solid=true→g.own (g.ρ l)=some (.obj l)
 pre:∀l o,hget h l=some o→o.solid=true→g.pre (g.ρ l)=0
structure Sim (g:Gh) (w:World) (n:Nat) (a:Act) (e:Env) (h:Heap):Prop where
 defers:a.defers=[]
 size:a.tmps.size=n
 env:∀i,VRel g w (domOf h) (some (.slot i)) (a.tmps.getD i undef) (eget e i)
 heap:HRel g w h
 bnd:∀b o,g.own b=some o→b<w.heap.size
structure Ext (g:Gh) (w:World) (g':Gh) (w':World):Prop where
 size:w.heap.size≤w'.heap.size
 os:w'.os=w.os
 out:w'.output=w.output
 imm:∀b o v,imm g w b o=some v→imm g' w' b o=some v
 kept:∀b,b<w.heap.size→g.own b=none→w'.heap[b]?=w.heap[b]?∧g'.pre b=g.pre b∧g'.own b=none
 frz:SgLe g g'
 frz':∀a:Addr,a.block<w.heap.size→w'.frozen? a=w.frozen? a
 ρk:∀l,bigId≤l→g'.ρ l=g.ρ l
 siz:∀(b:Nat) (cs:Array Value) (E:TypeId),w.heap[b]?=some (.cells cs E (0,0))→∃(cs':Array Value) (E':TypeId),w'.heap[b]?=some (.cells cs' E' (0,0))∧cs'.size=cs.size
theorem Ext.refl (g:Gh) (w:World):Ext g w g w:=
 ⟨Nat.le_refl _,rfl,rfl,fun _ _ _ h=>h,fun _ _ ho=>⟨rfl,rfl,ho⟩,SgLe.of rfl rfl,fun _ _=>rfl,fun _ _=>rfl,fun b cs E hb=>⟨cs,E,hb,rfl⟩⟩
theorem Ext.trans {g g' g'':Gh} {w w' w'':World} (h:Ext g w g' w') (h':Ext g' w' g'' w''):Ext g w g'' w'':=by
 refine⟨Nat.le_trans h.size h'.size,h'.os.trans h.os,h'.out.trans h.out,fun b o v hv=>h'.imm _ _ _ (h.imm _ _ _ hv),fun b hb ho=>?_,h.frz.trans h'.frz,fun a ha=>?_,fun l hl=>(h'.ρk l hl).trans (h.ρk l hl),fun b cs E hb=>?_⟩
 ·obtain⟨h1,h2,h3⟩:=h.kept b hb ho
  obtain⟨k1,k2,k3⟩:=h'.kept b (Nat.lt_of_lt_of_le hb h.size) h3;exact⟨k1.trans h1,k2.trans h2,k3⟩
 ·rw[h'.frz' a (Nat.lt_of_lt_of_le ha h.size)];exact h.frz' a ha
 ·obtain⟨cs1,E1,q1,q2⟩:=h.siz b cs E hb
  obtain⟨cs2,E2,q3,q4⟩:=h'.siz b cs1 E1 q1;exact⟨cs2,E2,q3,q4.trans q2⟩
end Go.AM
