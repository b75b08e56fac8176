/- Part of a machine over plain values. No conditions. -/
import Derived.Test.YtldppkdekklpkaaGreatDoorAMDefs
import Derived.Laws.Sem
import Derived.Laws.Cells
import Derived.Laws.CopyRow
import Derived.Laws.Entries
set_option linter.all false
section
namespace Go.AM
structure Mm where
 mem:Nat→Nat→Option Value
 sg:Nat→Nat→Option (Nat×Nat)
instance:CoeFun Mm (fun _=>Nat→Nat→Option Value):=⟨Mm.mem⟩
inductive PRel (M:Mm):Value→PV→Prop
 |b (x:Bool):PRel M (.bool x) (.b x)
 |i (k:IntKind) (n:Int):PRel M (.int k n) (.i k n)
 |s (x:ByteArray):PRel M (.string x) (.s x)
 |agg (vs:List Value) (xs:List PV) (hl:vs.length=xs.length) (h1:∀v∈vs,v.oneCell'=true) (hx:∀(j:Nat) (v:Value) (x:PV),vs[j]?=some v→xs[j]?=some x→PRel M v x):PRel M (.agg vs.toArray) (.agg xs)
 |nil (sz:Nat):PRel M (.slice none 0 0) (.sl sz [])
 |sl (a:Addr) (cap sz:Nat) (xs:List PV) (f:Nat→Nat→Value) (hs:cap≠0→a.spot=none) (hc:xs.length≤cap) (hz:∀x∈xs,x.cells.length=sz)
   (hm:∀(j:Nat) (x:PV),xs[j]?=some x→∀(i:Nat) (y:PV),x.cells[i]?=some y→M a.block (a.off+j*sz+i)=some (f j i)∧(f j i).oneCell'=true)
   (hx:∀(j:Nat) (x:PV),xs[j]?=some x→∀(i:Nat) (y:PV),x.cells[i]?=some y→PRel M (f j i) y):
   PRel M (.slice (some a) xs.length cap) (.sl sz xs)
 |nilp:PRel M (.pointer none) .nilp
 |nsl:PRel M (.slice none 0 0) .nsl
 |adr (s k a C:Nat) (h:M.sg s k=some (a,C)):PRel M (.pointer (some ⟨a,0,none⟩)) (.adr s k)
 |ads (s k a n cap:Nat) (h:M.sg s k=some (a,cap)) (hc:n≤cap):PRel M (.slice (some ⟨a,0,none⟩) n cap) (.ads s k n)
 |pa (T:Nat) (one:Bool) (sz s k m c a C:Nat) (h:M.sg s k=some (a,C)):PRel M (.pointer (some ⟨a,m*sz+c,none⟩)) (.pa T one sz s k m c)
 |bx (a:Addr) (cs:List PV) (f:Nat→Value) (hs:a.spot=none) (hm:∀(i:Nat) (y:PV),cs[i]?=some y→M a.block (a.off+i)=some (f i)∧(f i).oneCell'=true)
   (hx:∀(i:Nat) (y:PV),cs[i]?=some y→PRel M (f i) y):PRel M (.pointer (some a)) (.bx cs)
 |ifv (T:Nat) (v:Value) (x:PV) (h:PRel M v x):PRel M (.iface T v) (.ifv T x)
 |nifc:PRel M .nilIface .nifc
 |amp (s k a C:Nat) (h:M.sg s k=some (a,C)):PRel M (.map (some a)) (.amp s k)
theorem PRel.mono {M M':Mm} (h:∀b o v,M b o=some v→M' b o=some v) {v:Value} {x:PV} (r:PRel M v x) (hs:∀s k a,M.sg s k=some a→M'.sg s k=some a:=by exact fun _ _ _ q=>q):PRel M' v x:=by
 induction r with
 |b x=>exact .b x
 |i k n=>exact .i k n
 |s x=>exact .s x
 |agg vs xs hl h1 _ ih=>exact .agg vs xs hl h1 ih
 |nil sz=>exact .nil sz
 |sl a cap sz xs f hs hc hz hm _ ih=>exact .sl a cap sz xs f hs hc hz (fun j x hj i y hi=>⟨h _ _ _ (hm j x hj i y hi).1,(hm j x hj i y hi).2⟩) ih
 |nilp=>exact .nilp
 |nsl=>exact .nsl
 |adr s k a C q=>exact .adr s k a C (hs s k _ q)
 |ads s k a n cap q hc=>exact .ads s k a n cap (hs s k _ q) hc
 |pa T one sz s k m c a C q=>exact .pa T one sz s k m c a C (hs s k _ q)
 |bx a cs f hs2 hm _ ih=>exact .bx a cs f hs2 (fun i y hi=>⟨h _ _ _ (hm i y hi).1,(hm i y hi).2⟩) ih
 |ifv T v x _ ih=>exact .ifv T v x ih
 |nifc=>exact .nifc
 |amp s k a C q=>exact .amp s k a C (hs s k _ q)
inductive Owner where
 |slot (i:Nat)
 |cell (l j:Nat)
 |obj (l:Nat)
 |ret
 deriving DecidableEq
structure Gh where
 pre:Nat→Nat
 own:Nat→Option Owner
 ρ:Nat→Nat
 σ:Nat→Nat→Option (Nat×Nat)
 sown:Nat→Option Nat
def SgLe (g g':Gh):Prop:=(∀s k a,g.σ s k=some a→g'.σ s k=some a)∧g'.sown=g.sown∧∀s,g.sown s=none→∀k,g'.σ s k=g.σ s k
theorem SgLe.of {g g':Gh} (h1:g'.σ=g.σ) (h2:g'.sown=g.sown):SgLe g g':=⟨fun s k a q=>by rw[h1];exact q,h2,fun s _ k=>by rw[h1]⟩
theorem SgLe.trans {g g' g'':Gh} (h:SgLe g g') (h':SgLe g' g''):SgLe g g'':=
 ⟨fun s k a q=>h'.1 s k a (h.1 s k a q),h'.2.1.trans h.2.1,fun s q k=>(h'.2.2 s (by rw[h.2.1];exact q) k).trans (h.2.2 s q k)⟩
def imm (g:Gh) (w:World):Mm:=⟨fun b o=>if o<g.pre b then w.cell? ⟨b,o,none⟩ else none,g.σ⟩
theorem imm_eq (g:Gh) (w:World) (b o:Nat):imm g w b o=if o<g.pre b then w.cell? ⟨b,o,none⟩ else none:=rfl
def ifcOK:Bool→Value→Prop
 |false,v=>v=.nilIface
 |true,v=>∃T x,v=.iface T x
inductive VRel (g:Gh) (w:World) (dom:Nat→Prop):Option Owner→Value→AV→Prop
 |top (ow:Option Owner) (v:Value):VRel g w dom ow v .top
 |p (ow:Option Owner) (v:Value) (x:PV) (h:PRel (imm g w) v x):VRel g w dom ow v (.p x)
 |c (ow:Option Owner) (v:Value) (h1:v.oneCell'=true):VRel g w dom ow v (.c v)
 |nilS (ow:Option Owner):VRel g w dom ow (.slice none 0 0) .nilS
 |es (ow:Option Owner) (a:Addr) (cap sz:Nat) (hs:cap≠0→a.spot=none):VRel g w dom ow (.slice (some a) 0 cap) (.es sz)
 |full (ow:Option Owner) (a:Option Addr) (sz:Nat) (xs:List PV) (hz:0<sz) (h:PRel (imm g w) (.slice a xs.length xs.length) (.sl sz xs)):VRel g w dom ow (.slice a xs.length xs.length) (.so sz xs)
 |own (o:Owner) (a:Addr) (cap sz:Nat) (xs:List PV) (cs:Array Value) (E:TypeId) (hz:0<sz) (h:PRel (imm g w) (.slice (some a) xs.length cap) (.sl sz xs))
   (ho:g.own a.block=some o) (hp:g.pre a.block=a.off+xs.length*sz) (hb:w.heap[a.block]?=some (.cells cs E (0,0))) (hs:a.off+cap*sz≤cs.size):
   VRel g w dom (some o) (.slice (some a) xs.length cap) (.so sz xs)
 |ptr (ow:Option Owner) (l off:Nat) (hd:dom l):VRel g w dom ow (.pointer (some ⟨g.ρ l,off,none⟩)) (.ptr l off)
 |vp (ow:Option Owner) (a:Addr) (cs:List PV) (f:Nat→Value) (hs:a.spot=none) (hm:∀(i:Nat) (y:PV),cs[i]?=some y→imm g w a.block (a.off+i)=some (f i)∧(f i).oneCell'=true)
   (hx:∀(i:Nat) (y:PV),cs[i]?=some y→PRel (imm g w) (f i) y):VRel g w dom ow (.pointer (some a)) (.vp cs)
 |agg (ow:Option Owner) (vs:List Value) (cs:List AV) (hl:vs.length=cs.length) (h1:∀v∈vs,v.oneCell'=true) (hx:∀(j:Nat) (v:Value) (c:AV),vs[j]?=some v→cs[j]?=some c→VRel g w dom none v c):
   VRel g w dom ow (.agg vs.toArray) (.agg cs)
 |tup (ow:Option Owner) (vs:List Value) (cs:List AV) (hl:vs.length=cs.length) (hx:∀(j:Nat) (v:Value) (c:AV),vs[j]?=some v→cs[j]?=some c→VRel g w dom none v c):
   VRel g w dom ow (.tuple vs.toArray) (.tup cs)
 |mp (ow:Option Owner) (l:Nat) (hd:dom l):VRel g w dom ow (.map (some (g.ρ l))) (.mp l)
 |ar (ow:Option Owner) (l n:Nat) (hd:dom l) (hn:∃(cs:Array Value) (E:TypeId),w.heap[g.ρ l]?=some (.cells cs E (0,0))∧cs.size=n):VRel g w dom ow (.slice (some ⟨g.ρ l,0,none⟩) n n) (.ar l)
 |ap (ow:Option Owner) (l i:Nat) (hd:dom l):VRel g w dom ow (.pointer (some ⟨g.ρ l,i,none⟩)) (.ap l i)
 |al0 (ow:Option Owner) (l sz:Nat) (hd:dom l):VRel g w dom ow (.slice none 0 0) (.al false l sz 0)
 |al (ow:Option Owner) (st:Bool) (l sz n cap:Nat) (hd:dom l) (h0:st=true∨0<n) (hc:n≤cap) (hn:∃(cs:Array Value) (E:TypeId),w.heap[g.ρ l]?=some (.cells cs E (0,0))∧cap*sz≤cs.size):VRel g w dom ow (.slice (some ⟨g.ρ l,0,none⟩) n cap) (.al st l sz n)
 |ep (ow:Option Owner) (l sz i c:Nat) (hd:dom l):VRel g w dom ow (.pointer (some ⟨g.ρ l,i*sz+c,none⟩)) (.ep l sz i c)
 |tl (ow:Option Owner) (a:Addr) (l sz i m cap:Nat) (hd:dom l) (ha:0<m→a=⟨g.ρ l,i*sz,none⟩) (hn:∃(cs:Array Value) (E:TypeId),w.heap[g.ρ l]?=some (.cells cs E (0,0))∧(i+m)*sz≤cs.size):VRel g w dom ow (.slice (some a) m cap) (.tl l sz i m)
 |fn (ow:Option Owner) (f:Nat) (fs cs:List Value) (first caps:List AV) (h1:fs.length=first.length) (h2:cs.length=caps.length)
   (hf:∀(j:Nat) (v:Value) (c:AV),fs[j]?=some v→first[j]?=some c→VRel g w dom none v c) (hc:∀(j:Nat) (v:Value) (c:AV),cs[j]?=some v→caps[j]?=some c→VRel g w dom none v c):
   VRel g w dom ow (.func (.func f) fs.toArray cs.toArray) (.fn f first caps)
 |ifc (ow:Option Owner) (b:Bool) (v:Value) (h:ifcOK b v):VRel g w dom ow v (.ifc b)
theorem ifc_cell {b:Bool} {v:Value} (h:ifcOK b v):v.oneCell'=true∧v.cells=#[v]:=by
 cases b with
 |false=>have:v=.nilIface:=h;subst this;exact⟨rfl,rfl⟩
 |true=>obtain⟨T,x,rfl⟩:=h;exact⟨rfl,rfl⟩
theorem VRel.keep {g g':Gh} {w w':World} {dom dom':Nat→Prop} (hi:∀b o v,imm g w b o=some v→imm g' w' b o=some v)
 (hd:∀l,dom l→dom' l∧g'.ρ l=g.ρ l) (har:∀l cs E,dom l→w.heap[g.ρ l]?=some (.cells cs E (0,0))→∃cs' E',w'.heap[g.ρ l]?=some (.cells cs' E' (0,0))∧cs'.size=cs.size)
 {ow:Option Owner} (ho:∀o b,ow=some o→g.own b=some o→g'.own b=some o∧g'.pre b=g.pre b∧w'.heap[b]?=w.heap[b]?)
 {v:Value} {x:AV} (r:VRel g w dom ow v x) (hsg:∀s k a,g.σ s k=some a→g'.σ s k=some a:=by exact fun _ _ _ q=>q):VRel g' w' dom' ow v x:=by
 induction r with
 |top ow v=>exact .top ow v
 |p ow v x h=>exact .p ow v x (h.mono hi hsg)
 |c ow v h1=>exact .c ow v h1
 |nilS ow=>exact .nilS ow
 |es ow a cap sz hs=>exact .es ow a cap sz hs
 |full ow a sz xs hz h=>exact .full ow a sz xs hz (h.mono hi hsg)
 |own o a cap sz xs cs E hz h hw hp hb hs=>
  obtain⟨h1,h2,h3⟩:=ho o a.block rfl hw;exact .own o a cap sz xs cs E hz (h.mono hi hsg) h1 (h2.trans hp) (h3.trans hb) hs
 |ptr ow l off h=>obtain⟨h1,h2⟩:=hd l h;rw[←h2];exact .ptr ow l off h1
 |vp ow a cs f hs hm hx=>exact .vp ow a cs f hs (fun i y h=>⟨hi _ _ _ (hm i y h).1,(hm i y h).2⟩) (fun i y h=>(hx i y h).mono hi hsg)
 |agg ow vs cs hl h1 _ ih=>exact .agg ow vs cs hl h1 (fun j v c h1 h2=>ih j v c h1 h2 (fun _ _ h=>by cases h))
 |tup ow vs cs hl _ ih=>exact .tup ow vs cs hl (fun j v c h1 h2=>ih j v c h1 h2 (fun _ _ h=>by cases h))
 |mp ow l h=>obtain⟨h1,h2⟩:=hd l h;rw[←h2];exact .mp ow l h1
 |ar ow l n h hn=>
  obtain⟨h1,h2⟩:=hd l h;obtain⟨cs,E,hb,hs⟩:=hn;obtain⟨cs',E',hb',hs'⟩:=har l cs E h hb;rw[←h2]at hb' ⊢;exact .ar ow l n h1 ⟨cs',E',hb',hs'.trans hs⟩
 |ap ow l i h=>obtain⟨h1,h2⟩:=hd l h;rw[←h2];exact .ap ow l i h1
 |ifc ow b v h=>exact .ifc ow b v h
 |al0 ow l sz h=>exact .al0 ow l sz (hd l h).1
 |al ow st l sz n cap h h0 hc hn=>
  obtain⟨h1,h2⟩:=hd l h;obtain⟨cs,E,hb,hs⟩:=hn;obtain⟨cs',E',hb',hs'⟩:=har l cs E h hb;rw[←h2]at hb' ⊢;exact .al ow st l sz n cap h1 h0 hc ⟨cs',E',hb',by rw[hs'];exact hs⟩
 |ep ow l sz i c h=>obtain⟨h1,h2⟩:=hd l h;rw[←h2];exact .ep ow l sz i c h1
 |tl ow a l sz i m cap h ha hn=>
  obtain⟨h1,h2⟩:=hd l h;obtain⟨cs,E,hb,hs⟩:=hn;obtain⟨cs',E',hb',hs'⟩:=har l cs E h hb;rw[←h2]at hb' ha;exact .tl ow a l sz i m cap h1 ha ⟨cs',E',hb',by rw[hs'];exact hs⟩
 |fn ow f fs cs first caps h1 h2 _ _ ih1 ih2=>exact .fn ow f fs cs first caps h1 h2 (fun j v c a b=>ih1 j v c a b (fun _ _ h=>by cases h)) (fun j v c a b=>ih2 j v c a b (fun _ _ h=>by cases h))
theorem VRel.copy {g:Gh} {w:World} {dom:Nat→Prop} {ow ow':Option Owner} {v:Value} {x:AV} (r:VRel g w dom ow v x):VRel g w dom ow' v x.copy:=by
 cases r with
 |top=>exact .top _ _
 |p _ _ _ h=>exact .p _ _ _ h
 |c _ _ h1=>exact .c _ _ h1
 |nilS=>exact .nilS _
 |es _ a cap sz hs=>exact .es _ a cap sz hs
 |full _ a sz xs hz h=>exact .p _ _ _ h
 |own o a cap sz xs cs E hz h=>exact .p _ _ _ h
 |ptr _ l off hd=>exact .ptr _ _ _ hd
 |vp _ a cs f hs hm hx=>exact .vp _ _ _ f hs hm hx
 |agg _ vs cs hl h1 hx=>exact .agg _ _ _ hl h1 hx
 |tup _ vs cs hl hx=>exact .tup _ _ _ hl hx
 |mp _ l hd=>exact .mp _ _ hd
 |ar _ l n hd hn=>exact .ar _ _ _ hd hn
 |ap _ l i hd=>exact .ap _ _ _ hd
 |ifc _ b v h=>exact .ifc _ b v h
 |al0 _ l sz hd=>exact .al0 _ _ _ hd
 |al _ st l sz n cap hd h0 hc hn=>exact .al _ _ _ _ _ _ hd h0 hc hn
 |ep _ l sz i c hd=>exact .ep _ _ _ _ _ hd
 |tl _ a l sz i m cap hd ha hn=>exact .tl _ _ _ _ _ _ _ hd ha hn
 |fn _ f fs cs first caps h1 h2 hf hc=>exact .fn _ _ _ _ _ _ h1 h2 hf hc
theorem VRel.anyOwner {g:Gh} {w:World} {dom:Nat→Prop} {ow ow':Option Owner} {v:Value} {x:AV} (hx:∀sz xs,x≠.so sz xs) (r:VRel g w dom ow v x):VRel g w dom ow' v x:=by
 have e:x.copy=x:=by cases x<;>first|rfl|exact absurd rfl (hx _ _)
 rw[←e];exact r.copy
def domOf (h:Heap) (l:Nat):Prop:=(hget h l).isSome=true
def entriesRel (M:Mm) (es:List MapEntry) (xs:List (PV×PV)):Prop:=
 es.length=xs.length∧∀(j:Nat) (e:MapEntry) (x:PV×PV),es[j]?=some e→xs[j]?=some x→PRel M e.key x.1∧PRel M e.val x.2
def MapOK (es:Array MapEntry) (clock:Nat):Prop:=clock=es.size∧∀(j:Nat) (e:MapEntry),es[j]?=some e→e.born=j
def GRow (g:Gh) (w:World) (l sz:Nat) (xs:List PV):Prop:=
 ∃(vs:Array Value) (E:TypeId),w.heap[g.ρ l]?=some (.cells vs E (0,0))∧0<sz∧xs.length*sz≤vs.size∧(∀x∈xs,x.cells.length=sz)∧
  ∀(j:Nat) (x:PV),xs[j]?=some x→∀(i:Nat) (y:PV),x.cells[i]?=some y→∃v,vs[j*sz+i]?=some v∧v.oneCell'=true∧PRel (imm g w) v y
theorem gr_solid {st:Bool} {sz:Nat} {xs:List PV} (h:st=true∨xs≠[]):(AObj.gr st sz xs).solid=true:=by
 rcases h with rfl|h
 ·rfl
 ·cases xs with
  |nil=>exact absurd rfl h
  |cons _ _=>cases st<;>rfl
theorem GRow.mono {g g':Gh} {w w':World} {l l' sz:Nat} {xs:List PV} (h:GRow g w l sz xs) (hi:∀b o v,imm g w b o=some v→imm g' w' b o=some v) (hb:∀vs E,w.heap[g.ρ l]?=some (.cells vs E (0,0))→w'.heap[g'.ρ l']?=some (.cells vs E (0,0))) (hs:∀s k a,g.σ s k=some a→g'.σ s k=some a:=by exact fun _ _ _ q=>q):GRow g' w' l' sz xs:=by
 obtain⟨vs,E,h1,h2,h3,h4,h6⟩:=h;refine⟨vs,E,hb vs E h1,h2,h3,h4,fun j x hx i y hy=>?_⟩;obtain⟨v,q1,q2,q3⟩:=h6 j x hx i y hy;exact⟨v,q1,q2,q3.mono hi hs⟩
def BRow (g:Gh) (w:World) (l T e:Nat) (bs:List UInt8):Prop:=
 ∃p v,w.heap[g.ρ l]?=some (.cells #[p,v] T (0,0))∧(p=.pointer none∨p=.pointer (some ⟨g.ρ l,0,none⟩))∧
  ((v=.slice none 0 0∧bs=[])∨∃(bb cap:Nat) (cur:Array Value),v=.slice (some ⟨bb,0,none⟩) bs.length cap∧g.own bb=some (.cell l 1)∧g.pre bb=0∧bb≠g.ρ l∧w.heap[bb]?=some (.cells cur e (0,0))∧bs.length≤cap∧cap≤9223372036854775807∧cur.size=cap∧cur.toList.take bs.length=bs.map fun c=>Value.int .u8 c.toNat)
def SCells (g:Gh) (w:World) (a:Nat×Nat) (sz:Nat) (xs:List PV):Prop:=
 ∃(vs:Array Value) (E:TypeId),w.heap[a.1]?=some (.cells vs E (0,0))∧0<sz∧(xs.length≤a.2∧a.2*sz≤vs.size)∧(∀x∈xs,x.cells.length=sz)∧
  ∀(j:Nat) (x:PV),xs[j]?=some x→∀(i:Nat) (y:PV),x.cells[i]?=some y→∃v,vs[j*sz+i]?=some v∧v.oneCell'=true∧PRel (imm g w) v y
theorem SCells.mono {g g':Gh} {w w':World} {a:Nat×Nat} {sz:Nat} {xs:List PV} (h:SCells g w a sz xs) (hi:∀b o v,imm g w b o=some v→imm g' w' b o=some v) (hb:w'.heap[a.1]?=w.heap[a.1]?) (hs:∀s k a,g.σ s k=some a→g'.σ s k=some a:=by exact fun _ _ _ q=>q):SCells g' w' a sz xs:=by
 obtain⟨vs,E,h1,h2,h3,h4,h6⟩:=h;refine⟨vs,E,hb.trans h1,h2,h3,h4,fun j x hx i y hy=>?_⟩;obtain⟨v,q1,q2,q3⟩:=h6 j x hx i y hy;exact⟨v,q1,q2,q3.mono hi hs⟩
def SMap (g:Gh) (w:World) (b:Nat) (xs:List PV):Prop:=
 ∃(pk:Option KD) (es:Array MapEntry) (clock:Nat) (ps:List (PV×PV)),w.heap[b]?=some (.map es clock)∧xs=ps.map (mkx pk)∧entriesRel (imm g w) es.toList ps∧(∀x∈ps,keyX pk x.1)∧MapOK es clock
def SBlk (g:Gh) (w:World) (a:Nat×Nat) (sz:Nat) (xs:List PV):Prop:=SCells g w a sz xs∨(sz=0∧SMap g w a.1 xs)
theorem SBlk.mono {g g':Gh} {w w':World} {a:Nat×Nat} {sz:Nat} {xs:List PV} (h:SBlk g w a sz xs) (hi:∀b o v,imm g w b o=some v→imm g' w' b o=some v) (hb:w'.heap[a.1]?=w.heap[a.1]?) (hs:∀s k a,g.σ s k=some a→g'.σ s k=some a:=by exact fun _ _ _ q=>q):SBlk g' w' a sz xs:=by
 rcases h with h|⟨h0,pk,es,c,ps,h1,h2,h3,h4⟩
 ·exact .inl (h.mono hi hb hs)
 ·exact .inr ⟨h0,pk,es,c,ps,hb.trans h1,h2,⟨h3.1,fun j e x q1 q2=>⟨(h3.2 j e x q1 q2).1.mono hi hs,(h3.2 j e x q1 q2).2.mono hi hs⟩⟩,h4⟩
structure StoreOK (g:Gh) (w:World) (l sp nx sz:Nat) (M:List (Nat×List PV)):Prop where
 sown:g.sown sp=some l
 fresh:∀k,nx≤k→g.σ sp k=none
 row:∀k xs,(k,xs)∈M→∃a,g.σ sp k=some a∧g.own a.1=some (.obj l)∧g.pre a.1=0∧SBlk g w a sz xs
 inj:∀k k' xs xs' a a',(k,xs)∈M→(k',xs')∈M→g.σ sp k=some a→g.σ sp k'=some a'→a.1=a'.1→k=k'
 nodup:(M.map (·.1)).Nodup
theorem StoreOK.rowC {g:Gh} {w:World} {l sp nx sz:Nat} {M:List (Nat×List PV)} (h:StoreOK g w l sp nx sz M) (hz:sz≠0) (k:Nat) (xs:List PV) (hk:(k,xs)∈M):∃a,g.σ sp k=some a∧g.own a.1=some (.obj l)∧g.pre a.1=0∧SCells g w a sz xs:=by
 obtain⟨a,h1,h2,h3,h4⟩:=h.row k xs hk;rcases h4 with h4|h4
 ·exact⟨a,h1,h2,h3,h4⟩
 ·exact absurd h4.1 hz
theorem StoreOK.rowM {g:Gh} {w:World} {l sp nx sz:Nat} {M:List (Nat×List PV)} (h:StoreOK g w l sp nx sz M) (hz:sz=0) (k:Nat) (xs:List PV) (hk:(k,xs)∈M):∃a,g.σ sp k=some a∧g.own a.1=some (.obj l)∧g.pre a.1=0∧SMap g w a.1 xs:=by
 obtain⟨a,h1,h2,h3,h4⟩:=h.row k xs hk;rcases h4 with⟨_,_,_,q,_⟩|h4
 ·omega
 ·exact⟨a,h1,h2,h3,h4.2⟩
theorem StoreOK.mono {g g':Gh} {w w':World} {l l' sp nx sz:Nat} {M:List (Nat×List PV)} (h:StoreOK g w l sp nx sz M) (hi:∀b o v,imm g w b o=some v→imm g' w' b o=some v)
 (ho:∀a,g.own a=some (.obj l)→g'.own a=some (.obj l')∧w'.heap[a]?=w.heap[a]?∧g'.pre a=g.pre a) (hw:g'.sown sp=some l') (hs:∀s k a,g.σ s k=some a→g'.σ s k=some a:=by exact fun _ _ _ q=>q)
 (he:∀k,g'.σ sp k=g.σ sp k:=by exact fun _=>rfl):StoreOK g' w' l' sp nx sz M:=by
 refine⟨hw,fun k hk=>(he k).trans (h.fresh k hk),fun k xs hk=>?_,fun k k' xs xs' a a' q1 q2 q3 q4=>h.inj k k' xs xs' a a' q1 q2 ((he k).symm.trans q3) ((he k').symm.trans q4),h.nodup⟩;obtain⟨a,h1,h2,h3,h4⟩:=h.row k xs hk;obtain⟨k1,k2,k3⟩:=ho a.1 h2;exact⟨a,(he k).trans h1,k1,k3.trans h3,h4.mono hi k2 hs⟩
inductive ORel (g:Gh) (w:World) (dom:Nat→Prop) (l:Nat):AObj→Prop
 |cells (cs:List AV) (vs:Array Value) (E:TypeId) (hb:w.heap[g.ρ l]?=some (.cells vs E (0,0))) (hl:vs.size=cs.length)
   (hx:∀(j:Nat) (v:Value) (c:AV),vs[j]?=some v→cs[j]?=some c→VRel g w dom (some (.cell l j)) v c)
   (h1:∀v∈vs.toList,v.oneCell'=true):ORel g w dom l (.cells cs)
 |arr (xs:List PV) (vs:Array Value) (E:TypeId) (hb:w.heap[g.ρ l]?=some (.cells vs E (0,0))) (hl:vs.size=xs.length)
   (hx:∀(j:Nat) (v:Value) (x:PV),vs[j]?=some v→xs[j]?=some x→PRel (imm g w) v x)
   (h1:∀v∈vs.toList,v.oneCell'=true):ORel g w dom l (.arr xs)
 |map (kd:KD) (xs:List (PV×PV)) (es:Array MapEntry) (clock:Nat) (hb:w.heap[g.ρ l]?=some (.map es clock)) (hx:entriesRel (imm g w) es.toList xs)
   (hc:(∀x∈xs,kdOf x.1=some kd)∧MapOK es clock):ORel g w dom l (.map kd xs)
 |gr (st:Bool) (sz:Nat) (xs:List PV) (hg:st=true∨xs≠[]→GRow g w l sz xs):ORel g w dom l (.gr st sz xs)
 |dead:ORel g w dom l .dead
 |glob (b:Nat) (vs:List Value) (h:g.own b=none∧∃(E:TypeId) (fr:Nat×Nat),w.heap[b]?=some (.cells vs.toArray E fr)):ORel g w dom l (.glob b vs)
 |bld (T e:Nat) (bs:List UInt8) (h:BRow g w l T e bs):ORel g w dom l (.bld T e bs)
 |store (T:Nat) (one:Bool) (sp nx sz:Nat) (M:List (Nat×List PV)) (h:StoreOK g w l sp nx sz M):ORel g w dom l (.store T one sp nx sz M)
theorem ORel.bldM {g g':Gh} {w w':World} {dom':Nat→Prop} {l l' T e:Nat} {bs:List UInt8} (h:BRow g w l T e bs) (hρ:g'.ρ l'=g.ρ l) (hb:w'.heap[g.ρ l]?=w.heap[g.ρ l]?) (ho:∀bb,g.own bb=some (.cell l 1)→g'.own bb=some (.cell l' 1)∧w'.heap[bb]?=w.heap[bb]?∧g'.pre bb=g.pre bb):ORel g' w' dom' l' (.bld T e bs):=by
 obtain⟨p,v,h1,h2,h3⟩:=h;refine .bld T e bs ⟨p,v,by rw[hρ,hb];exact h1,by rw[hρ];exact h2,?_⟩;rcases h3 with h3|⟨bb,cap,cur,q1,q2,q6,q3,q4,q5⟩
 ·exact .inl h3
 ·exact .inr ⟨bb,cap,cur,q1,(ho bb q2).1,(ho bb q2).2.2.trans q6,by rw[hρ];exact q3,by rw[(ho bb q2).2.1];exact q4,q5⟩
theorem ORel.globM {g g':Gh} {w w':World} {dom':Nat→Prop} {l b:Nat} {vs:List Value} (h:g.own b=none∧∃(E:TypeId) (fr:Nat×Nat),w.heap[b]?=some (.cells vs.toArray E fr)) (A:g.own b=none→b<w.heap.size→(∃c E fr,w.heap[b]?=some (.cells c E fr))→w'.heap[b]?=w.heap[b]?∧g'.own b=none):ORel g' w' dom' l (.glob b vs):=by
 obtain⟨h1,E,fr,h2⟩:=h;obtain⟨q1,q2⟩:=A h1 (Array.getElem?_eq_some_iff.1 h2).1 ⟨_,_,_,h2⟩;exact .glob b vs ⟨q2,E,fr,by rw[q1];exact h2⟩
structure HRel (g:Gh) (w:World) (h:Heap):Prop where
 obj:∀l o,hget h l=some o→ORel g w (domOf h) l o
 own:∀l o,hget h l=some o→o.solid=true→g.own (g.ρ l)=some (.obj l)
 pre:∀l o,hget h l=some o→o.solid=true→g.pre (g.ρ l)=0
structure Sim (g:Gh) (w:World) (n:Nat) (a:Act) (e:Env) (h:Heap):Prop where
 defers:a.defers=[]
 size:a.tmps.size=n
 env:∀i,VRel g w (domOf h) (some (.slot i)) (a.tmps.getD i undef) (eget e i)
 heap:HRel g w h
 bnd:∀b o,g.own b=some o→b<w.heap.size
structure Ext (g:Gh) (w:World) (g':Gh) (w':World):Prop where
 size:w.heap.size≤w'.heap.size
 os:w'.os=w.os
 out:w'.output=w.output
 imm:∀b o v,imm g w b o=some v→imm g' w' b o=some v
 kept:∀b,b<w.heap.size→g.own b=none→w'.heap[b]?=w.heap[b]?∧g'.pre b=g.pre b∧g'.own b=none
 frz:SgLe g g'
 frz':∀a:Addr,a.block<w.heap.size→w'.frozen? a=w.frozen? a
 ρk:∀l,bigId≤l→g'.ρ l=g.ρ l
 siz:∀(b:Nat) (cs:Array Value) (E:TypeId),w.heap[b]?=some (.cells cs E (0,0))→∃(cs':Array Value) (E':TypeId),w'.heap[b]?=some (.cells cs' E' (0,0))∧cs'.size=cs.size
theorem Ext.refl (g:Gh) (w:World):Ext g w g w:=
 ⟨Nat.le_refl _,rfl,rfl,fun _ _ _ h=>h,fun _ _ ho=>⟨rfl,rfl,ho⟩,SgLe.of rfl rfl,fun _ _=>rfl,fun _ _=>rfl,fun b cs E hb=>⟨cs,E,hb,rfl⟩⟩
theorem Ext.trans {g g' g'':Gh} {w w' w'':World} (h:Ext g w g' w') (h':Ext g' w' g'' w''):Ext g w g'' w'':=by
 refine⟨Nat.le_trans h.size h'.size,h'.os.trans h.os,h'.out.trans h.out,fun b o v hv=>h'.imm _ _ _ (h.imm _ _ _ hv),fun b hb ho=>?_,h.frz.trans h'.frz,fun a ha=>?_,fun l hl=>(h'.ρk l hl).trans (h.ρk l hl),fun b cs E hb=>?_⟩
 ·obtain⟨h1,h2,h3⟩:=h.kept b hb ho
  obtain⟨k1,k2,k3⟩:=h'.kept b (Nat.lt_of_lt_of_le hb h.size) h3;exact⟨k1.trans h1,k2.trans h2,k3⟩
 ·rw[h'.frz' a (Nat.lt_of_lt_of_le ha h.size)];exact h.frz' a ha
 ·obtain⟨cs1,E1,q1,q2⟩:=h.siz b cs E hb
  obtain⟨cs2,E2,q3,q4⟩:=h'.siz b cs1 E1 q1;exact⟨cs2,E2,q3,q4.trans q2⟩
end Go.AM
end
section
namespace Go.AM
def kdT (P:Program) (t:Nat):Option KD:=match P.underlying t,P.info? t with
 |some .bool,some _=>some .kb
 |some (.int k),some _=>some (.ki k)
 |some .string,some _=>some .ks
 |_,_=>none
def flatFields (P:Program):Nat→List Field→List KD→Bool
 |_,[],[]=>true
 |n,f::r,k::ks=>Nat.beq f.offset n&&(f.name != "_")&&(kdT P f.type==some k)&&Nat.beq (P.cellsOf f.type) 1&&flatFields P (n+1) r ks
 |_,_,_=>false
def eqOK (P:Program) (t:Nat) (ks:List KD):Bool:=!(P.eqGuardType P.depth t)&&(match P.underlying t with
 |some (.struct fs)=>!(P.stoodInHeld t)&&flatFields P 0 fs.toList ks
 |some (.array m el)=>Nat.beq (P.cellsOf el) 1&&Nat.beq ks.length m&&ks.all (fun k=>kdT P el==some k)
 |_=>false)
def Meth (P:Program) (T:Nat) (name:String) (f:Nat):Prop:=∀x w,(method (P.types.size+Made.depth) T x name).run P w=.ok (f,x) w
structure TyRow (P:Program) (t:Nat) (i:TI):Prop where
 und:P.underlying t=some i.desc
 inf:∃inf z,P.info? t=some inf∧inf.size=i.size∧inf.bytes=i.bytes∧inf.zero=some z∧z.cells.toList=i.zero∧i.zero.length=i.size
 one:∀v∈i.zero,v.oneCell'=true
 eqs:i.eqs=[]∨eqOK P t i.eqs=true
 agz:isAggD i.desc=true→∃inf z,P.info? t=some inf∧inf.zero=some z∧∃cs,z=.agg cs
 noz:isAggD i.desc=false→∃inf z,P.info? t=some inf∧inf.zero=some z∧z.cells=#[z]
 mth:∀p∈i.meth,Meth P t p.1 p.2
 plc:∀fs,i.desc=.struct fs→∃places,fs.toList.mapM (fun f=>(P.info? f.type).map fun i=>(f.offset,i.size))=some places
def TyOK (P:Program) (ty:Nat→Option TI):Prop:=∀t i,ty t=some i→TyRow P t i
theorem Oper.wp_value {P:Program} {o:Oper} {a:Act} {w w':World} {v:Value} {K:Act→World→Prop} {Q:Exit→Act→World→Prop}
 (hr:(execOp a.eval o).run P w=.ok (.value v) w') (h:K (a.put o.dst v) w'):o.wp P a w K Q:=by
 simp only[Oper.wp,hr,Oper.upon];exact h
theorem Oper.wp_skip {P:Program} {o:Oper} {a:Act} {w w':World} {K:Act→World→Prop} {Q:Exit→Act→World→Prop}
 (hr:(execOp a.eval o).run P w=.ok .skip w') (h:K (a.put o.dst undef) w'):o.wp P a w K Q:=by
 simp only[Oper.wp,hr,Oper.upon];exact h
def OpOK (P:Program) (n:Nat) (o:Oper) (e:Env) (h:Heap) (f:Eff):Prop:=
 ∀e' h',(∀t∈slotsOf o,eget e' t=eget e t)→(∀l∈f.rd++f.hw.map (·.1),hget h' l=hget h l)→
  ∀g w a,Sim g w n a e' h'→o.wp P a w (fun a' w'=>∃g',Sim g' w' n a' (f.ew.reverse++e') (f.hw.reverse++h')∧Ext g w g' w') (fun _ _ _=>False)
theorem beq_false {a b:Nat} (h:a≠b):Nat.beq a b=false:=by
 cases hb:Nat.beq a b with
 |false=>rfl
 |true=>exact absurd (Nat.eq_of_beq_eq_true hb) h
theorem beq_self (a:Nat):Nat.beq a a=true:=Nat.beq_refl a
theorem eget_self (d:Nat) (v:AV) (e:Env):eget ((d,v)::e) d=v:=by simp[eget]
theorem eget_ne {d i:Nat} (h:d≠i) (v:AV) (e:Env):eget ((d,v)::e) i=eget e i:=by simp[eget,beq_false h]
theorem hget_self (d:Nat) (v:AObj) (e:Heap):hget ((d,v)::e) d=some v:=by simp[hget]
theorem hget_ne {d i:Nat} (h:d≠i) (v:AObj) (e:Heap):hget ((d,v)::e) i=hget e i:=by simp[hget,beq_false h]
theorem Sim.put {g:Gh} {w:World} {n:Nat} {a:Act} {e:Env} {h:Heap} (s:Sim g w n a e h) {d:Nat} (hd:d<n) {v:Value} {x:AV}
 (r:VRel g w (domOf h) (some (.slot d)) v x):Sim g w n (a.put (some d) v) ((d,x)::e) h:=by
 refine⟨s.defers,by simp[Act.put,s.size],fun i=>?_,s.heap,s.bnd⟩
 by_cases hi:d=i
 ·subst hi
  rw[eget_self];have:(a.put (some d) v).tmps.getD d undef=v:=by simp[Act.put,s.size,hd]
  rw[this];exact r
 ·rw[eget_ne hi]
  have:(a.put (some d) v).tmps.getD i undef=a.tmps.getD i undef:=by simp[Act.put,Array.getD_eq_getD_getElem?,hi]
  rw[this];exact s.env i
theorem Sim.drew {g:Gh} {w:World} {n:Nat} {a:Act} {e:Env} {h:Heap} {k:Nat} (s:Sim g w n a e h):Sim g { w with drawn:=k } n a e h:=by
 have key:∀{ow v x},VRel g w (domOf h) ow v x→VRel g { w with drawn:=k } (domOf h) ow v x:=fun r=>
  VRel.keep (g:=g) (g':=g) (w:=w) (w':={ w with drawn:=k }) (fun _ _ _ h=>h) (fun l hl=>⟨hl,rfl⟩) (fun l cs E _ hb=>⟨cs,E,hb,rfl⟩) (fun o b _ ho=>⟨ho,rfl,rfl⟩) r
 refine⟨s.defers,s.size,fun i=>key (s.env i),⟨fun l o ho=>?_,s.heap.own,s.heap.pre⟩,s.bnd⟩
 cases s.heap.obj l o ho with
 |cells cs vs E hb hl hx h1=>exact .cells cs vs E hb hl (fun j v c h2 h3=>key (hx j v c h2 h3)) h1
 |arr xs vs E hb hl hx h1=>exact .arr xs vs E hb hl hx h1
 |map kd xs es clock hb hx hc=>exact .map kd xs es clock hb hx hc
 |gr st sz xs hg=>exact .gr st sz xs hg
 |dead=>exact .dead
 |glob gb gvs hgl=>exact .glob gb gvs hgl
 |bld T E bs hbl=>exact .bld T E bs hbl
 |store T3 o3 sp3 nx3 z3 M3 hst=>exact .store T3 o3 sp3 nx3 z3 M3 (hst.mono (fun _ _ _ q=>q) (fun _ q=>⟨q,rfl,rfl⟩) hst.sown)
theorem Ext.drew {g:Gh} {w:World} {k:Nat}:Ext g w g { w with drawn:=k }:=
 ⟨Nat.le_refl _,rfl,rfl,fun _ _ _ h=>h,fun _ _ ho=>⟨rfl,rfl,ho⟩,SgLe.of rfl rfl,fun _ _=>rfl,fun _ _=>rfl,fun b cs E hb=>⟨cs,E,hb,rfl⟩⟩
theorem constAV1_rel {g:Gh} {w:World} {dom:Nat→Prop} {ow:Option Owner} (v:Value):VRel g w dom ow v (constAV1 v):=by
 unfold constAV1;split<;>first|exact .p _ _ _ (.b _)|exact .p _ _ _ (.i _ _)|exact .p _ _ _ (.s _)|exact .nilS _|exact .p _ _ _ .nilp|exact .c _ _ rfl|exact .top _ _
theorem constAV1s_get:∀(l:List Value) (j:Nat),(constAV1s l)[j]?=(l[j]?).map constAV1
 | [],j=>by simp[constAV1s]
 |x::r,0=>by simp[constAV1s]
 |x::r,j+1=>by simp[constAV1s,constAV1s_get r j]
theorem constAV1s_length:∀(l:List Value),(constAV1s l).length=l.length
 | []=>rfl
 |_::r=>by simp[constAV1s,constAV1s_length r]
theorem oneCells_all:∀{l:List Value},oneCells l=true→∀v∈l,v.oneCell'=true
 | [],_,v,hv=>by cases hv
 |x::r,h,v,hv=>by
  simp only[oneCells,Bool.and_eq_true]at h;rcases List.mem_cons.1 hv with rfl|hv
  ·exact h.1
  ·exact oneCells_all h.2 v hv
theorem constAV_rel {g:Gh} {w:World} {dom:Nat→Prop} {ow:Option Owner} (v:Value):VRel g w dom ow v (constAV v):=by
 unfold constAV;split
 ·rename_i cs
  split
  ·rename_i hc
   refine .agg ow cs (constAV1s cs) (constAV1s_length cs).symm (oneCells_all hc) (fun j v c h1 h2=>?_);rw[constAV1s_get,h1]at h2;cases h2;exact constAV1_rel v
  ·exact .top _ _
 ·exact constAV1_rel _
theorem constAV_so {v:Value} {sz:Nat} {xs:List PV} (h:constAV v=.so sz xs):False:=by
 unfold constAV at h;split at h
 ·split at h<;>cases h
 ·unfold constAV1 at h;split at h<;>cases h
theorem Sim.ev {g:Gh} {w:World} {n:Nat} {a:Act} {e:Env} {h:Heap} (s:Sim g w n a e h) (x:Operand):∃ow,VRel g w (domOf h) ow (a.eval x) (ev e x):=by
 cases x with
 |tmp t=>exact⟨_,s.env t⟩
 |const v=>exact⟨none,constAV_rel v⟩
 |func f=>exact⟨none,.fn none f [] [] [] [] rfl rfl (fun j v c h=>by simp at h) (fun j v c h=>by simp at h)⟩
 |global b=>exact⟨none,.top _ _⟩
theorem ev_congr {o:Oper} {e e':Env} (h:∀t∈slotsOf o,eget e' t=eget e t) {x:Operand} (hx:x∈o.op.operands):ev e' x=ev e x:=by
 cases x with
 |tmp t=>exact h t (by simp only[slotsOf,List.mem_filterMap];exact⟨.tmp t,by simpa using hx,rfl⟩)
 |_=>rfl
theorem OpOK.ret {P:Program} {n:Nat} {o:Oper} {e:Env} {h:Heap} {rd:List Nat} {x:AV} (hd:∀d,o.dst=some d→d<n)
 (hx:∀e' h',(∀t∈slotsOf o,eget e' t=eget e t)→(∀l∈rd,hget h' l=hget h l)→∀g w a,Sim g w n a e' h'→
   ∃v,(execOp a.eval o).run P w=.ok (.value v) w∧∀d,o.dst=some d→VRel g w (domOf h') (some (.slot d)) v x):
 OpOK P n o e h (match o.dst with|some d=>⟨rd,[(d,x)],[]⟩|none=>⟨rd,[],[]⟩):=by
 intro e' h' he hh g w a s
 have hrd:∀l∈rd,hget h' l=hget h l:=by
  intro l hl
  cases hdst:o.dst<;>simp only[hdst]at hh<;>exact hh l (by simp[hl])
 obtain⟨v,hr,hv⟩:=hx e' h' he hrd g w a s;refine Oper.wp_value hr ⟨g,?_,Ext.refl _ _⟩
 cases hdst:o.dst with
 |none=>exact s
 |some d=>exact s.put (hd d hdst) (hv d hdst)
theorem ret_iff {o:Oper} {v:AV} {K:AK} (hk:ret o v K):K (match o.dst with|some d=>⟨[],[(d,v)],[]⟩|none=>⟨[],[],[]⟩):=by
 unfold ret at hk
 cases hd:o.dst<;>simp only[hd,AV.force_eq]at hk<;>exact hk
theorem retR_iff {o:Oper} {l:Nat} {v:AV} {K:AK} (hk:retR o l v K):K (match o.dst with|some d=>⟨[l],[(d,v)],[]⟩|none=>⟨[l],[],[]⟩):=by
 unfold retR at hk
 cases hd:o.dst<;>simp only[hd,AV.force_eq]at hk<;>exact hk
theorem ret_sound {P:Program} {n:Nat} {o:Oper} {e:Env} {h:Heap} {x:AV} {K:AK} (hd:∀d,o.dst=some d→d<n) (hk:Go.AM.ret o x K)
 (hx:∀e' h',(∀t∈slotsOf o,eget e' t=eget e t)→∀g w a,Sim g w n a e' h'→
   ∃v,(execOp a.eval o).run P w=.ok (.value v) w∧∀d,o.dst=some d→VRel g w (domOf h') (some (.slot d)) v x):∃f,K f∧OpOK P n o e h f:=
 ⟨_,ret_iff hk,OpOK.ret hd fun e' h' he _=>hx e' h' he⟩
theorem retR_sound {P:Program} {n:Nat} {o:Oper} {e:Env} {h:Heap} {l:Nat} {x:AV} {K:AK} (hd:∀d,o.dst=some d→d<n) (hk:Go.AM.retR o l x K)
 (hx:∀e' h',(∀t∈slotsOf o,eget e' t=eget e t)→hget h' l=hget h l→∀g w a,Sim g w n a e' h'→
   ∃v,(execOp a.eval o).run P w=.ok (.value v) w∧∀d,o.dst=some d→VRel g w (domOf h') (some (.slot d)) v x):∃f,K f∧OpOK P n o e h f:=
 ⟨_,retR_iff hk,OpOK.ret hd fun e' h' he hl=>hx e' h' he (hl l (by simp))⟩
end Go.AM
end
section
namespace Go.AM
theorem getAt_spec {α:Type}:∀(cs:List α) (off n:Nat) (l:List α),getAt cs off n=some l→l.length=n∧∀j,j<n→l[j]?=cs[off+j]?
 |_,_,0,l,h=>by simp[getAt]at h;subst h;simp
 | [],_,_+1,l,h=>by simp[getAt]at h
 |x::r,0,n+1,l,h=>by
  simp only[getAt]at h
  cases hg:getAt r 0 n with
  |none=>simp[hg]at h
  |some l1=>
   simp only[hg,Option.some.injEq]at h;subst h;obtain⟨h1,h2⟩:=getAt_spec r 0 n l1 hg;refine⟨by simp[h1],fun j hj=>?_⟩
   cases j with
   |zero=>simp
   |succ j=>have:=h2 j (by omega);simpa using this
 |x::r,o+1,n+1,l,h=>by
  simp only[getAt]at h;obtain⟨h1,h2⟩:=getAt_spec r o (n+1) l h;refine⟨h1,fun j hj=>?_⟩;rw[h2 j hj,show o+1+j=(o+j)+1 by omega];simp
theorem setAt_spec {α:Type}:∀(cs:List α) (off:Nat) (ys cs':List α),setAt cs off ys=some cs'→cs'.length=cs.length∧(ys≠[]→off+ys.length≤cs.length)∧
 ∀j,cs'[j]?=if off≤j∧j<off+ys.length then ys[j-off]? else cs[j]?
 |cs,off,[],cs',h=>by
  have:cs'=cs:=by cases cs<;>simpa[setAt] using h.symm
  subst this;refine⟨rfl,by simp,fun j=>?_⟩;rw[if_neg (by simp)]
 | [],off,y::ys,cs',h=>by simp[setAt]at h
 |x::r,0,y::ys,cs',h=>by
  simp only[setAt]at h
  cases hg:setAt r 0 ys with
  |none=>simp[hg]at h
  |some l1=>
   simp only[hg,Option.some.injEq]at h;subst h;obtain⟨h1,h2,h3⟩:=setAt_spec r 0 ys l1 hg;refine⟨by simp[h1],fun _=>?_,fun j=>?_⟩
   ·by_cases hy:ys=[]
    ·subst hy;simp
    ·have:=h2 hy;simp at this ⊢;omega
   ·cases j with
    |zero=>simp
    |succ j=>
     have:=h3 j;simp only[List.getElem?_cons_succ,List.length_cons,Nat.zero_le,true_and,Nat.zero_add,Nat.sub_zero]at this ⊢;rw[this]
     by_cases hj:j<ys.length
     ·rw[if_pos hj,if_pos (by omega)]
     ·rw[if_neg hj,if_neg (by omega)]
 |x::r,o+1,y::ys,cs',h=>by
  simp only[setAt]at h
  cases hg:setAt r o (y::ys) with
  |none=>simp[hg]at h
  |some l1=>
   simp only[hg,Option.some.injEq]at h;subst h;obtain⟨h1,h2,h3⟩:=setAt_spec r o (y::ys) l1 hg;refine⟨by simp[h1],fun hy=>by have:=h2 hy;simp at this ⊢;omega,fun j=>?_⟩
   cases j with
   |zero=>simp
   |succ j=>
    have:=h3 j;simp only[List.getElem?_cons_succ]at this ⊢;rw[this]
    by_cases hj:o≤j∧j<o+(y::ys).length
    ·rw[if_pos hj,if_pos (by omega)];congr 1;omega
    ·rw[if_neg hj,if_neg (by omega)]
theorem pCells_get:∀(xs:List PV) (j:Nat),(pCells xs)[j]?=(xs[j]?).map AV.p
 | [],j=>by simp[pCells]
 |x::r,0=>by simp[pCells]
 |x::r,j+1=>by simp[pCells,pCells_get r j]
theorem pCells_length (xs:List PV):(pCells xs).length=xs.length:=by
 induction xs with
 |nil=>rfl
 |cons x r ih=>simp[pCells,ih]
theorem copyAll_get:∀(xs:List AV) (j:Nat),(copyAll xs)[j]?=(xs[j]?).map AV.copy
 | [],j=>by simp[copyAll]
 |x::r,0=>by simp[copyAll]
 |x::r,j+1=>by simp[copyAll,copyAll_get r j]
theorem copyAll_length (xs:List AV):(copyAll xs).length=xs.length:=by
 induction xs with
 |nil=>rfl
 |cons x r ih=>simp[copyAll,ih]
theorem pure?_rel {g:Gh} {w:World} {dom:Nat→Prop} {ow:Option Owner} {v:Value} {x:AV} {z:Nat} {y:PV} (r:VRel g w dom ow v x) (h:x.pure? z=some y):PRel (imm g w) v y:=by
 cases r with
 |p _ _ _ h'=>simp[AV.pure?]at h;exact h ▸ h'
 |nilS=>
  simp only[AV.pure?,Option.some.injEq]at h;subst h
  cases z with
  |zero=>exact .nsl
  |succ z=>exact .nil _
 |es _ a cap sz hs=>simp[AV.pure?]at h;subst h;exact .sl a cap sz [] (fun _ _=>undef) hs (Nat.zero_le _) (by simp) (by simp) (by simp)
 |full _ a sz xs hz h'=>simp[AV.pure?]at h;exact h ▸ h'
 |vp _ a cs f hs hm hx=>simp[AV.pure?]at h;subst h;exact .bx a cs f hs hm hx
 |own o a cap sz xs cs E hz h'=>simp[AV.pure?]at h;exact h ▸ h'
 |_=>simp[AV.pure?]at h
theorem allPure_spec {g:Gh} {w:World} {dom:Nat→Prop}:∀(cs:List AV) (z:List Nat) (l:List PV),allPure cs z=some l→l.length=cs.length∧
 ∀(j:Nat) (v:Value) (ow:Option Owner) (c:AV) (y:PV),cs[j]?=some c→l[j]?=some y→VRel g w dom ow v c→PRel (imm g w) v y
 | [],z,l,h=>by simp[allPure]at h;subst h;simp
 |c::r,z,l,h=>by
  simp only[allPure]at h
  cases h1:c.pure? (headD z) with
  |none=>simp[h1]at h
  |some x=>
   cases h2:allPure r z.tail with
   |none=>simp[h1,h2]at h
   |some l1=>
    simp only[h1,h2,Option.some.injEq]at h;subst h;obtain⟨k1,k2⟩:=allPure_spec (g:=g) (w:=w) (dom:=dom) r z.tail l1 h2;refine⟨by simp[k1],fun j v ow c' y hc hy hr=>?_⟩
    cases j with
    |zero=>simp at hc hy;subst hc;subst hy;exact pure?_rel hr h1
    |succ j=>simp at hc hy;exact k2 j v ow c' y hc hy hr
theorem pureL_rel {g:Gh} {w:World} {dom:Nat→Prop} {ow:Option Owner} {v:Value} {x:AV} {z:List Nat} {y:PV} (r:VRel g w dom ow v x) (h:x.pureL z=some y):PRel (imm g w) v y:=by
 cases x with
 |agg cs=>
  cases r with
  |agg _ vs _ hl h1 hx=>
   simp only[AV.pureL]at h;split at h
   ·rename_i l hl2
    cases h;obtain⟨k1,k2⟩:=allPure_spec (g:=g) (w:=w) (dom:=dom) cs z l hl2;refine .agg vs l (hl.trans k1.symm) h1 fun j v y hv hy=>?_;have hj:j<cs.length:=by have:=(List.getElem?_eq_some_iff.1 hv).1;omega
    exact k2 j v none cs[j] y (by simp[hj]) hy (hx j v cs[j] hv (by simp[hj]))
   ·cases h
 |_=>exact pure?_rel (z:=headD z) r h
theorem aggTy_rel {ty:Nat→Option TI} {g:Gh} {w:World} {dom:Nat→Prop} {ow:Option Owner} {v:Value} {cs:List AV} (t:Nat) (r:VRel g w dom ow v (.agg cs)):VRel g w dom ow v (aggTy ty t cs):=by
 unfold aggTy;split
 ·rename_i i _
  split
  ·rename_i l hl
   exact .p _ _ _ (pureL_rel (z:=i.csz) r (by simp[AV.pureL,hl]))
  ·exact r
 ·exact r
theorem mkAgg_rel {g:Gh} {w:World} {dom:Nat→Prop} {ow:Option Owner} (vs:List Value) (cs:List AV) (z:List Nat) (hl:vs.length=cs.length) (h1:∀v∈vs,v.oneCell'=true)
 (hx:∀(j:Nat) (v:Value) (c:AV),vs[j]?=some v→cs[j]?=some c→∃ow',VRel g w dom ow' v c):VRel g w dom ow (.agg vs.toArray) (mkAgg cs z):=by
 unfold mkAgg
 cases h:allPure cs z with
 |some l=>
  obtain⟨k1,k2⟩:=allPure_spec (g:=g) (w:=w) (dom:=dom) cs z l h;refine .p _ _ _ (.agg vs l (hl.trans k1.symm) h1 fun j v y hv hy=>?_);have hj:j<cs.length:=by have:=(List.getElem?_eq_some_iff.1 hv).1;omega
  obtain⟨ow',hr⟩:=hx j v cs[j] hv (by simp[hj]);exact k2 j v ow' cs[j] y (by simp[hj]) hy hr
 |none=>
  refine .agg _ vs _ (by simp[copyAll_length,hl]) h1 fun j v c hv hc=>?_;rw[copyAll_get]at hc
  cases hcs:cs[j]? with
  |none=>simp[hcs]at hc
  |some c0=>
   simp only[hcs,Option.map_some,Option.some.injEq]at hc;subst hc;obtain⟨ow',hr⟩:=hx j v c0 hv hcs;exact hr.copy
theorem mkAggN_rel {g:Gh} {w:World} {dom:Nat→Prop} {ow:Option Owner} (vs:List Value) (cs:List AV) (z:List Nat) (hl:vs.length=cs.length) (h1:∀v∈vs,v.oneCell'=true)
 (hx:∀(j:Nat) (v:Value) (c:AV),vs[j]?=some v→cs[j]?=some c→∃ow',VRel g w dom ow' v c):VRel g w dom ow (.agg vs.toArray) (mkAggN cs z):=by
 unfold mkAggN;split
 ·refine .agg _ vs _ (by simp[copyAll_length,hl]) h1 fun j v c hv hc=>?_
  rw[copyAll_get]at hc
  cases hcs:cs[j]? with
  |none=>simp[hcs]at hc
  |some c0=>
   simp only[hcs,Option.map_some,Option.some.injEq]at hc;subst hc;obtain⟨ow',hr⟩:=hx j v c0 hv hcs;exact hr.copy
 ·exact mkAgg_rel vs cs z hl h1 hx
theorem cells?_rel {g:Gh} {w:World} {dom:Nat→Prop} {ow:Option Owner} {v:Value} {x:AV} {cs:List AV} (r:VRel g w dom ow v x) (h:x.cells?=some cs):
 v.cells.toList.length=cs.length∧(∀u∈v.cells.toList,u.oneCell'=true)∧
 ∀(j:Nat) (u:Value) (c:AV),v.cells.toList[j]?=some u→cs[j]?=some c→(cs=[x]∧j=0∧u=v∧c=x)∨VRel g w dom none u c:=by
 have one:∀{v:Value} {x:AV},v.oneCell'=true→(v.cells=#[v])→some [x]=some cs→v.cells.toList.length=cs.length∧(∀u∈v.cells.toList,u.oneCell'=true)∧
  ∀(j:Nat) (u:Value) (c:AV),v.cells.toList[j]?=some u→cs[j]?=some c→(cs=[x]∧j=0∧u=v∧c=x)∨VRel g w dom none u c:=by
  intro v x h1 hc hs;simp only[Option.some.injEq]at hs;subst hs;rw[hc];refine⟨rfl,by simpa using h1,fun j u c hu hcj=>.inl ?_⟩
  cases j with
  |zero=>simp at hu hcj;exact⟨rfl,rfl,hu.symm,hcj.symm⟩
  |succ j=>simp at hu
 cases r with
 |top=>simp[AV.cells?]at h
 |p _ _ y h'=>
  cases h' with
  |agg vs xs hl h1 hx=>
   simp only[AV.cells?,Option.some.injEq]at h;subst h;refine⟨by simp[Value.cells,pCells_length,hl],by simpa[Value.cells] using h1,fun j u c hu hc=>.inr ?_⟩;rw[pCells_get]at hc
   cases hxs:xs[j]? with
   |none=>simp[hxs]at hc
   |some y=>
    simp only[hxs,Option.map_some,Option.some.injEq]at hc;subst hc;exact .p _ _ _ (hx j u y (by simpa[Value.cells] using hu) hxs)
  |b x=>exact one rfl rfl h
  |i k n=>exact one rfl rfl h
  |s x=>exact one rfl rfl h
  |nil sz=>exact one rfl rfl h
  |sl a cap sz xs f=>exact one rfl rfl h
  |nilp=>exact one rfl rfl h
  |nsl=>exact one rfl rfl h
  |adr s k a C q=>exact one rfl rfl h
  |ads s k a n cap q hc=>exact one rfl rfl h
  |pa T o1 sz s k m c a C q=>exact one rfl rfl h
  |bx a cs f hs hm hx=>exact one rfl rfl h
  |ifv T v x hq=>exact one rfl rfl h
  |nifc=>exact one rfl rfl h
  |amp s k a C q=>exact one rfl rfl h
 |c _ _ h1=>exact one h1 (by cases v<;>first|rfl|simp[Value.oneCell']at h1) h
 |ifc _ b v h'=>exact one (ifc_cell h').1 (ifc_cell h').2 h
 |nilS=>exact one rfl rfl h
 |es=>exact one rfl rfl h
 |full=>exact one rfl rfl h
 |own=>exact one rfl rfl h
 |ptr=>exact one rfl rfl h
 |vp=>exact one rfl rfl h
 |agg _ vs cs' hl h1 hx=>
  simp only[AV.cells?,Option.some.injEq]at h;subst h;exact⟨by simp[Value.cells,hl],by simpa[Value.cells] using h1,fun j u c hu hc=>.inr (hx j u c (by simpa[Value.cells] using hu) hc)⟩
 |tup=>simp[AV.cells?]at h
 |mp=>exact one rfl rfl h
 |ar=>exact one rfl rfl h
 |ap=>exact one rfl rfl h
 |al0=>exact one rfl rfl h
 |al=>exact one rfl rfl h
 |ep=>exact one rfl rfl h
 |tl=>exact one rfl rfl h
 |fn=>exact one rfl rfl h
end Go.AM
end
