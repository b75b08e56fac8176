/- Contracts, and the law, for every input. No conditions. -/
import Derived.Test.YtdmopjgjhfhfdaaGreatDoorAMInv
import Derived.Lib.Bytealg
import Derived.Lib.LaidU8
import Derived.Shelf.Strings.SplitShaped
import Derived.Test.YtdmopjgjhfhfdaaGreatDoorChecked
set_option linter.all false
section
namespace Go.AM
theorem jT {α β:Type} {enc:β→α} {Q:β→Prop}:∀(xs:List α),(∀x∈xs,∃d,x=enc d∧Q d)→∃l:List β,xs=l.map enc∧∀d∈l,Q d
 | [],_=>⟨[],rfl,by simp⟩
 |x::r,h=>by
  obtain⟨d,rfl,hq⟩:=h x (by simp);obtain⟨l,rfl,hl⟩:=jT r (fun y hy=>h y (by simp[hy]));refine⟨d::l,rfl,fun y hy=>?_⟩;rcases List.mem_cons.1 hy with rfl|hy
  ·exact hq
  ·exact hl y hy
def KH (P:Program) (t:Nat):Bool:=match P.underlying t with|some .string=>true|_=>false
def A6 (P:Program) (t e cells bytes:Nat) (agg:Bool):Bool:=match P.underlying t with|some (.slice e')=>Nat.beq e' e&&Nat.beq (P.cellsOf e) cells&&Nat.beq (P.bytesOf e) bytes&&(mU P e==agg)|_=>false
def Hv (P:Program) (t n:Nat) (l:List (Nat×Nat×Nat)):Bool:=match P.underlying t with|some (.struct fs)=>Nat.beq (P.cellsOf t) n&&(fs.toList.map (fun f=>(f.offset,f.type,P.cellsOf f.type))==l)|_=>false
theorem iw {P:Program} {t:Nat} {x:List PV} (hu:KH P t=true) (h:TP P t x):∃s,x=[.s s]∧s.size≤140737488351232:=by
 unfold KH at hu
 cases h with
 |str _ s h hb=>exact⟨s,rfl,hb⟩
 |bool _ _ h=>rw[h]at hu;cases hu
 |int _ _ _ h=>rw[h]at hu;cases hu
 |sl _ _ _ h=>rw[h]at hu;cases hu
 |struct _ _ _ h=>rw[h]at hu;cases hu
 |array _ _ _ _ h=>rw[h]at hu;cases hu
theorem lJ {P:Program} {t e c b:Nat} {agg:Bool} {x:List PV} (hu:A6 P t e c b agg=true) (h:TP P t x):
 ∃xs,x=[.sl c xs]∧xs.length*b≤140737488351232∧(∀y∈xs,TP P e y.cells)∧∀y∈xs,(agg=true→∃cs,y=.agg cs)∧(agg=false→y.cells=[y]):=by
 unfold A6 at hu
 cases h with
 |sl _ e' xs h hb hc ha=>
  rw[h]at hu;simp only[Bool.and_eq_true,beq_iff_eq]at hu;obtain⟨⟨⟨h1,h2⟩,h3⟩,h4⟩:=hu;obtain rfl:=Nat.eq_of_beq_eq_true h1;obtain rfl:=Nat.eq_of_beq_eq_true h2;obtain rfl:=Nat.eq_of_beq_eq_true h3;subst h4;exact⟨xs,rfl,hb,hc,ha⟩
 |bool _ _ h=>rw[h]at hu;cases hu
 |int _ _ _ h=>rw[h]at hu;cases hu
 |str _ _ h=>rw[h]at hu;cases hu
 |struct _ _ _ h=>rw[h]at hu;cases hu
 |array _ _ _ _ h=>rw[h]at hu;cases hu
theorem dM {P:Program} {t n:Nat} {l:List (Nat×Nat×Nat)} {x:List PV} (hu:Hv P t n l=true) (h:TP P t x):
 x.length=n∧∀p∈l,TP P p.2.1 ((x.drop p.1).take p.2.2):=by
 unfold Hv at hu
 cases h with
 |struct _ fs xs h hl hf=>
  rw[h]at hu;simp only[Bool.and_eq_true,beq_iff_eq]at hu;obtain⟨h1,rfl⟩:=hu;obtain rfl:=Nat.eq_of_beq_eq_true h1;refine⟨hl,fun p hp=>?_⟩;obtain⟨f,hfm,rfl⟩:=List.mem_map.1 hp;exact hf f hfm
 |bool _ _ h=>rw[h]at hu;cases hu
 |int _ _ _ h=>rw[h]at hu;cases hu
 |str _ _ h=>rw[h]at hu;cases hu
 |sl _ _ _ h=>rw[h]at hu;cases hu
 |array _ _ _ _ h=>rw[h]at hu;cases hu
theorem gB {P:Program} {t e c b:Nat} {x:List PV} {β:Type} {enc:β→PV} {Q:β→Prop} (hu:A6 P t e c b true=true) (h:TP P t x)
 (hd:∀cs,TP P e cs→∃d,PV.agg cs=enc d∧Q d):∃l:List β,x=[.sl c (l.map enc)]∧l.length*b≤140737488351232∧∀d∈l,Q d:=by
 obtain⟨xs,rfl,hb,hc,ha⟩:=lJ hu h
 obtain⟨l,rfl,hq⟩:=jT (enc:=enc) (Q:=Q) xs (fun y hy=>by
  obtain⟨cs,rfl⟩:=(ha y hy).1 rfl;exact hd cs (hc _ hy))
 exact⟨l,rfl,by simpa using hb,hq⟩
theorem zm {P:Program} {t e c b:Nat} {x:List PV} {β:Type} {enc:β→PV} {Q:β→Prop} (hu:A6 P t e c b false=true) (h:TP P t x)
 (hd:∀y,TP P e [y]→∃d,y=enc d∧Q d):∃l:List β,x=[.sl c (l.map enc)]∧l.length*b≤140737488351232∧∀d∈l,Q d:=by
 obtain⟨xs,rfl,hb,hc,ha⟩:=lJ hu h;obtain⟨l,rfl,hq⟩:=jT (enc:=enc) (Q:=Q) xs (fun y hy=>hd y ((ha y hy).2 rfl ▸ hc y hy));exact⟨l,rfl,by simpa using hb,hq⟩
end Go.AM
end
section
namespace Go.AM
theorem AQ (a b:ByteArray):(a==b)=true↔a=b:=MapKept.bytes_beq a b
theorem Nl (a b:ByteArray):(a.toList==b.toList)=(a==b):=(beq_toListBytes a b).symm
end Go.AM
namespace Go.AM
abbrev Bs:=List UInt8
def B (l:Bs):ByteArray:=⟨l.toArray⟩
theorem rF (l:Bs):(B l).size=l.length:=by simp[B,ByteArray.size]
theorem JJ (l:Bs):(B l).data.toList=l:=by simp[B]
theorem NB (s:ByteArray):s=B s.data.toList:=by simp[B]
theorem OP {a b:Bs} (h:B a=B b):a=b:=by have:=congrArg (fun s=>s.data.toList) h;simpa[B] using this
theorem Oq (l:Bs) (k:Nat):((B l)[k]?).getD 0=(l[k]?).getD 0:=by
 by_cases h:k<l.length
 ·have h1:k<(B l).size:=by rw[rF];exact h
  rw[getElem?_pos (B l) k h1,List.getElem?_eq_getElem h];rfl
 ·have h1:¬k<(B l).size:=by rw[rF];exact h
  rw[getElem?_neg (B l) k h1,List.getElem?_eq_none (by omega)]
theorem Jz (l:Bs) (i j:Nat):(B l).extract i j=B ((l.drop i).take (j-i)):=by
 apply ByteArray.ext
 simp only[ByteArray.data_extract,B]
 apply Array.ext'
 simp[List.extract_eq_take_drop]
theorem s8 (a b:Bs):((B a).toList==(B b).toList)=(a==b):=by
 rw[Nl]
 cases h:a==b with
 |true=>rw[beq_iff_eq]at h;rw[h];exact(AQ _ _).2 rfl
 |false=>
  cases hq:B a==B b with
  |false=>rfl
  |true=>have:=OP ((AQ _ _).1 hq);rw[this]at h;simp at h
def vU (b:UInt8):PV:=.i .u8 b.toNat
theorem Oz {l:Bs} {m:Int} {k:Nat} {c:UInt8} {K:PV→Prop} (hm:m=k) (h:l[k]?=some c) (hk:K (vU c)):KV (B l) m K:=by
 obtain⟨h1,_⟩:=List.getElem?_eq_some_iff.1 h;subst hm;refine⟨vU c,⟨by omega,by rw[rF];omega⟩,?_,hk⟩;rw[Int.toNat_natCast,Oq,h];rfl
end Go.AM
end
section
open Go Go.AM
set_option maxRecDepth 100000
namespace TK
def bE (l:Bs):PV:=.s (B l)
def fm (c:UInt8):Bs→List Bs
 | []=>[[]]
 |x::r=>bif x==c then []::fm c r else match fm c r with|p::ps=>(x::p)::ps | []=>[[x]]
def Kw:Bs:=[97,99,116,111,114,32,97,102,116,101,114,32,97,110,100,32,97,112,112,108,121,32,98,101,99,111,109,101,32,98,111,111,108,32,99,101,108,108,32,100,97,116,97,32,101,108,115,101,32,102,97,105,108,32,102,97,108,115,101,32,102,110,32,102,111,114,32,102,117,110,32,103,101,116,32,105,102,32,105,109,112,108,32,105,110,32,105,110,116,32,108,101,116,32,108,105,110,107,32,109,97,116,99,104,32,109,111,100,117,108,101,32,110,111,116,32,111,114,32,112,117,116,32,114,101,99,101,105,118,101,32,115,97,121,32,115,101,108,102,32,115,101,110,100,32,115,112,97,119,110,32,116,101,120,116,32,116,104,101,110,32,116,114,97,105,116,32,116,114,117,101,32,117,110,105,116,32,117,115,101,32,119,97,116,99,104]
def sx:List Bs:=fm 32 Kw
def MR (l:Bs):Bool:=!(l==[])&&sx.contains l
structure Tk where
 kind:Int
 text:Bs
 at_:Nat
def Og (t:Tk):PV:=.agg [.i .i64 t.kind,.s (B t.text),.i .i64 t.at_]
end TK
end
section
namespace Go.AM
open Go.ChangeShapes Go.WideShapes Go.ChangeAt Go.RowKit
def Mz (P:Program) (ps:List Nat):Bool:=
 let l:=oh P 1000 ps []
 Bm P l&&ps.all (fun t=>l.contains t&&P.readableRec t&&Nat.blt t P.types.size)&&laidOutB P
end Go.AM
end
section
namespace Go.AM
open Go.ChangeShapes Go.WideShapes Go.ChangeAt Go.RowKit
def MQ (gb:Nat) (vs:List Value):Heap:=[(1000000000,.bK gb vs)]
theorem Au {g:Gh} {w:World} {gb:Nat} {vs:List Value} (hno:g.own gb=none) (h:∃(E:TypeId) (fr:Nat×Nat),w.heap[gb]?=some (.cells vs.toArray E fr)):gj g w (MQ gb vs):=by
 refine⟨fun l o ho=>?_,fun l o ho hs=>?_,fun l o ho hs=>?_⟩
 all_goals
  unfold MQ at ho
  by_cases hl:1000000000=l
  ·subst hl
   rw[aP]at ho;cases ho
   first|exact .bK gb vs ⟨hno,h⟩|exact absurd hs (by decide)|cases hs
  ·rw[aT hl]at ho;cases ho
end Go.AM
end
section
namespace Go.AM
def GP:PV→Bool
 |.b _=>true
 |.i _ _=>true
 |.s _=>true
 |_=>false
def jK:AV→Bool
 |.p x=>GP x
 |.cA vs=>vs.all fun v=>match v with|.p x=>GP x|_=>false
 |_=>false
theorem Aj {M M':Mm} {v:Value} {x:PV} (r:aZ M v x) (hf:GP x=true):aZ M' v x:=by
 cases r<;>simp[GP]at hf
 ·exact .b _
 ·exact .i _ _
 ·exact .s _
theorem Hy {g g2:Gh} {w w2:World} {dom dom2:Nat→Prop} {ow ow2:Option aY} {v:Value} {x:AV} (r:aH g w dom ow v x) (hf:jK x=true):aH g2 w2 dom2 ow2 v x:=by
 cases r with
 |p _ _ _ h=>exact .p _ _ _ (Aj h (by simpa[jK] using hf))
 |cA _ vs cs hl hx=>
  refine .cA _ vs cs hl fun j v c q1 q2=>?_;simp only[jK,List.all_eq_true]at hf;have:=hf c (List.mem_of_getElem? q2);split at this
  ·have hr:=hx j v _ q1 q2
   cases hr with
   |p _ _ _ h=>exact .p _ _ _ (Aj h this)
  ·cases this
 |_=>simp[jK]at hf
mutual
def bA:PV→Bool
 |.b _=>true
 |.i _ _=>true
 |.s _=>true
 |.sl _ xs=>aU xs
 |.agg xs=>aU xs
 |.fW=>true
 |.sj=>true
 |.bx cs=>aU cs
 |.bH _ _=>false
 |.jR _ _ _=>false
 |.pa _ _ _ _ _ _ _=>false
 |.uq _ x=>bA x
 |.vO=>true
 |.amp _ _=>false
def aU:List PV→Bool
 | []=>true
 |x::r=>bA x&&aU r
end
theorem jZ:∀{l:List PV},aU l=true→∀(j:Nat) (x:PV),l[j]?=some x→bA x=true
 | [],_,j,x,h=>by simp at h
 |a::r,h,0,x,hx=>by simp at hx;subst hx;rw[aU,Bool.and_eq_true]at h;exact h.1
 |a::r,h,j+1,x,hx=>by rw[aU,Bool.and_eq_true]at h;exact jZ h.2 j x (by simpa using hx)
theorem Dj {x y:PV} {i:Nat} (h:bA x=true) (hy:x.cells[i]?=some y):bA y=true:=by
 cases x with
 |agg xs=>exact jZ (l:=xs) (by simpa[bA] using h) i y hy
 |_=>
  have:i=0:=by have:=(List.getElem?_eq_some_iff.1 hy).1;simp[PV.cells]at this;exact this
  subst this;simp[PV.cells]at hy;subst hy;exact h
theorem aZ.plain {M M':Mm} (hm:∀b o v,M b o=some v→M' b o=some v) {v:Value} {x:PV} (r:aZ M v x) (hp:bA x=true):aZ M' v x:=by
 induction r with
 |b x=>exact .b x
 |i k n=>exact .i k n
 |s x=>exact .s x
 |agg vs xs hl h1 _ ih=>exact .agg vs xs hl h1 (fun j v x q1 q2=>ih j v x q1 q2 (jZ (by simpa[bA] using hp) j x q2))
 |nil sz=>exact .nil sz
 |sl a cap sz xs f hs hc hz hm2 _ ih=>exact .sl a cap sz xs f hs hc hz (fun j x hj i y hi=>⟨hm _ _ _ (hm2 j x hj i y hi).1,(hm2 j x hj i y hi).2⟩) (fun j x hj i y hi=>ih j x hj i y hi (Dj (jZ (by simpa[bA] using hp) j x hj) hi))
 |fW=>exact .fW
 |sj=>exact .sj
 |bH=>cases hp
 |jR=>cases hp
 |pa=>cases hp
 |uq T v x _ ih=>exact .uq T v x (ih (by simpa[bA] using hp))
 |vO=>exact .vO
 |amp=>cases hp
 |bx a cs f hs2 hm2 _ ih=>exact .bx a cs f hs2 (fun i y hi=>⟨hm _ _ _ (hm2 i y hi).1,(hm2 i y hi).2⟩) (fun i y hi=>ih i y hi (jZ (by simpa[bA] using hp) i y hi))
def uU:AV→Bool
 |.p x=>bA x
 |_=>false
def yO:Heap→Nat→Option Nat
 | [],_=>none
 |(l,.store _ _ sp _ _ _)::r,s=>match Nat.beq sp s with|true=>some l|false=>yO r s
 |_::r,s=>yO r s
def oe (all:Heap):Heap→Bool
 | []=>true
 |(l,.store _ _ sp nx _ M)::r=>Nat.beq nx 0&&M.isEmpty&&(match yO all sp with|some l'=>Nat.beq l' l|none=>false)&&oe all r
 |_::_=>false
theorem jM {all:Heap}:∀{st:Heap},oe all st=true→∀{l:Nat} {ob:br},aG st l=some ob→∃T o sp sz,ob=.store T o sp 0 sz []∧yO all sp=some l
 | [],_,l,ob,h=>by simp[aG]at h
 |(k,x)::r,hs,l,ob,h=>by
  cases x with
  |store T o sp nx sz M=>
   simp only[oe,Bool.and_eq_true]at hs;obtain⟨⟨⟨h1,h2⟩,h3⟩,h4⟩:=hs
   by_cases e:k=l
   ·subst e
    rw[aP]at h;cases h;obtain rfl:=Nat.eq_of_beq_eq_true h1;have hM:M=[]:=List.isEmpty_iff.1 h2;subst hM;refine⟨T,o,sp,sz,rfl,?_⟩;split at h3
    ·rename_i l' hl;rw[hl,Nat.eq_of_beq_eq_true h3]
    ·cases h3
   ·rw[aT e]at h;exact jM h4 h
  |_=>simp[oe]at hs
def yL:Heap→Bool
 | []=>true
 |(_,.bK _ _)::r=>yL r
 |_::_=>false
theorem jm:∀{G:Heap},yL G=true→∀{l:Nat} {ob:br},aG G l=some ob→∃b vs,ob=.bK b vs
 | [],_,l,ob,h=>by simp[aG]at h
 |(k,x)::r,hs,l,ob,h=>by
  cases x with
  |bK b vs=>
   by_cases e:k=l
   ·subst e;rw[aP]at h;cases h;exact⟨b,vs,rfl⟩
   ·rw[aT e]at h;exact jm (by simpa[yL] using hs) h
  |_=>simp[yL]at hs
theorem oJ (G st:Heap) (l:Nat):aG (G++st) l=match aG G l with|some ob=>some ob|none=>aG st l:=by
 induction G with
 |nil=>simp[aG]
 |cons p r ih=>
  obtain⟨k,x⟩:=p
  by_cases e:k=l
  ·subst e;rw[List.cons_append,aP,aP]
  ·rw[List.cons_append,aT e,aT e,ih]
theorem av.Mx {P:Program} {f:Nat} {args:List AV} {G st st':Heap} {r:AV} (h:av P f args (G++st) r (G++st')) (ha:args.all uU=true) (hG:yL G=true) (hst:oe st st=true)
 (hr:∀(g g2:Gh) (w:World) (d d2:Nat→Prop) (o o2:Option aY) (v:Value),(∀b i u,bR g w b i=some u→bR g2 w b i=some u)→aH g w d o v r→aH g2 w d2 o2 v r):av P f args G r G:=by
 obtain⟨⟨hb,hgl⟩,hc⟩:=h
 have hgl2:fK G G=true:=by
  have key:∀(A:Heap),(∀p∈A,∀b vs,p.2=.bK b vs→∃vs',aG G p.1=some (.bK b vs'))→fK G A=true:=by
   intro A
   induction A with
   |nil=>intro _;rfl
   |cons p r ih=>
    intro hA;obtain⟨l,ob⟩:=p;simp only[fK,Bool.and_eq_true];refine⟨?_,ih fun q hq=>hA q (by simp[hq])⟩
    cases ob with
    |bK b vs=>
     obtain⟨vs',hq⟩:=hA (l,.bK b vs) (by simp) b vs rfl;simp only[hq];exact Nat.beq_refl b
    |_=>rfl
  have sub:∀(A B:Heap),fK (G++st) (A++B)=true→fK (G++st) A=true:=by
   intro A B
   induction A with
   |nil=>intro _;rfl
   |cons p r ih=>intro q;obtain⟨l,ob⟩:=p;simp only[List.cons_append,fK,Bool.and_eq_true]at q ⊢;exact⟨q.1,ih q.2⟩
  have h1:=sub G st' hgl;clear hgl key;generalize hA:G=A at h1 ⊢
  have:∀(B:Heap),fK (A++st) B=true→fK A B=true:=by
   intro B
   induction B with
   |nil=>intro _;rfl
   |cons p r ih=>
    intro q;obtain⟨l,ob⟩:=p;simp only[fK,Bool.and_eq_true]at q ⊢;refine⟨?_,ih q.2⟩
    cases ob with
    |bK b vs=>
     have q1:=q.1;simp only[oJ]at q1
     cases hq:aG A l with
     |some ob2=>rw[hq]at q1;simpa using q1
     |none=>
      rw[hq]at q1;simp only at q1;split at q1
      ·rename_i b' vs' hq2
       obtain⟨T,o,sp,sz,e,_⟩:=jM hst hq2;cases e
      ·cases q1
    |_=>rfl
  exact this A h1
 refine⟨⟨hb,hgl2⟩,fun g w vs hH hbn hl hrel=>?_⟩
 let g':Gh:={ g with σ:=fun _ _=>none,sown:=yO st }
 have hH':gj g' w (G++st):=by
  refine⟨fun l ob hob=>?_,fun l ob hob hs=>?_,fun l ob hob hs=>?_⟩
  ·rw[oJ]at hob
   cases hq:aG G l with
   |some ob2=>
    rw[hq]at hob;cases hob;obtain⟨b,vs,rfl⟩:=jm hG hq
    cases hH.obj l _ hq with
    |bK _ _ q=>exact .bK b vs q
   |none=>
    rw[hq]at hob;obtain⟨T,o,sp,sz,rfl,hso⟩:=jM hst hob;exact .store _ _ _ _ _ _ { sown:=hso,fresh:=fun _ _=>rfl,row:=fun _ _ q=>absurd q (by simp),inj:=fun _ _ _ _ _ _ q=>absurd q (by simp),nodup:=List.nodup_nil }
  ·rw[oJ]at hob
   cases hq:aG G l with
   |some ob2=>rw[hq]at hob;cases hob;obtain⟨b,vs,rfl⟩:=jm hG hq;cases hs
   |none=>rw[hq]at hob;obtain⟨T,o,sp,sz,rfl,_⟩:=jM hst hob;cases hs
  ·rw[oJ]at hob
   cases hq:aG G l with
   |some ob2=>rw[hq]at hob;cases hob;obtain⟨b,vs,rfl⟩:=jm hG hq;cases hs
   |none=>rw[hq]at hob;obtain⟨T,o,sp,sz,rfl,_⟩:=jM hst hob;cases hs
 have hrel':∀(j:Nat) (v:Value) (x:AV),vs[j]?=some v→args[j]?=some x→aH g' w (aF (G++st)) none v x:=fun j v x q1 q2=>by
  have hp:=List.all_eq_true.1 ha x (List.mem_of_getElem? q2);have hv:=hrel j v x q1 q2
  cases x with
  |p x=>exact .p _ _ _ (aZ.plain (M:=bR g w) (M':=bR g' w) (fun _ _ _ q=>q) hv.pv hp)
  |_=>cases hp
 refine(hc g' w vs hH' hbn hl hrel').mono ?_;rintro en w' ⟨v,g1,rfl,hv,hH1,hbn1,hE⟩
 let gF:Gh:={ pre:=g1.pre,own:=fun b=>if b<w.heap.size then g1.own b else none,ρ:=g1.ρ,σ:=g.σ,sown:=g.sown }
 refine⟨v,gF,rfl,hr g1 gF w' _ _ _ _ v (fun _ _ _ q=>q) hv,⟨fun l ob hob=>?_,fun l ob hob hs=>?_,fun l ob hob hs=>?_⟩,fun b o q=>?_,?_⟩
 ·obtain⟨b,vs,rfl⟩:=jm hG hob
  have hob1:aG (G++st') l=some (.bK b vs):=by rw[oJ,hob]
  cases hH1.obj l _ hob1 with
  |bK _ _ q=>exact .bK b vs ⟨by show(if b<w.heap.size then g1.own b else none)=none;split<;>first|exact q.1|rfl,q.2⟩
 ·obtain⟨b,vs,rfl⟩:=jm hG hob;cases hs
 ·obtain⟨b,vs,rfl⟩:=jm hG hob;cases hs
 ·replace q:(if b<w.heap.size then g1.own b else none)=some o:=q
  split at q
  ·exact hbn1 b o q
  ·cases q
 ·exact⟨hE.size,hE.os,hE.out,fun b o u hu=>hE.bR b o u hu,fun b hb hn=>by
   obtain⟨q1,q2,q3⟩:=hE.kept b hb hn;exact⟨q1,q2,by show(if b<w.heap.size then g1.own b else none)=none;rw[if_pos hb];exact q3⟩,rO.of rfl rfl,hE.frz',hE.ρk,hE.siz⟩
theorem av.O1 {P:Program} {f:Nat} {args:List AV} {G st st':Heap} {r:AV} (h:av P f args (G++st) r (G++st')) (ha:args.all uU=true) (hG:yL G=true) (hst:oe st st=true) (hr:jK r=true):av P f args G r G:=
 h.Mx ha hG hst fun _ _ _ _ _ _ _ _ _ hv=>Hy hv hr
theorem av.MK {P:Program} {f:Nat} {args:List AV} {G st st':Heap} {x:PV} (h:av P f args (G++st) (.p x) (G++st')) (ha:args.all uU=true) (hG:yL G=true) (hst:oe st st=true) (hr:bA x=true):av P f args G (.p x) G:=
 h.Mx ha hG hst fun _ _ _ _ _ _ _ _ hm hv=>.p _ _ _ (aZ.plain hm hv.pv hr)
end Go.AM
end
section
namespace Go.AM
inductive Lc (sp k n sz:Nat) (xs:List PV):PV→PV→Prop
 |refl (x:PV):Lc sp k n sz xs x x
 |jR:Lc sp k n sz xs (.jR sp k n) (.sl sz (xs.take n))
 |sj (z:Nat):Lc sp k n sz xs .sj (.sl z [])
 |agg (ps qs:List PV) (hl:ps.length=qs.length) (h:∀(j:Nat) (a b:PV),ps[j]?=some a→qs[j]?=some b→Lc sp k n sz xs a b):Lc sp k n sz xs (.agg ps) (.agg qs)
structure OV (g:Gh) (w:World) (M:Mm) (sp k n sz:Nat) (xs:List PV):Prop where
 mem:∀b o v,bR g w b o=some v→M b o=some v
 sg:∀s q a,g.σ s q=some a→M.sg s q=some a
 hz:∀x∈xs,x.cells.length=sz
 pos:0<sz
 blk:∃A C,g.σ sp k=some (A,C)∧n≤xs.length∧∀(j:Nat) (x:PV),j<n→xs[j]?=some x→∀(i:Nat) (y:PV),x.cells[i]?=some y→∃v,M A (j*sz+i)=some v∧v.oneCell'=true∧aZ (bR g w) v y
theorem Lc.rel {g:Gh} {w:World} {M:Mm} {sp k n sz:Nat} {xs:List PV} (hf:OV g w M sp k n sz xs) {p q:PV} (h:Lc sp k n sz xs p q):∀{v:Value},aZ (bR g w) v p→aZ M v q:=by
 induction h with
 |refl x=>intro v r;exact r.mono hf.mem hf.sg
 |jR=>
  intro v r;obtain⟨A,C,h1,h2,h3⟩:=hf.blk
  cases r with
  |jR _ _ a _ cap hA hc=>
   have hA:g.σ sp k=some (a,cap):=hA;rw[h1]at hA;cases hA;have hlen:(xs.take n).length=n:=by simp;omega
   have key:∀(j:Nat) (x:PV),(xs.take n)[j]?=some x→j<n∧xs[j]?=some x:=fun j x hx=>by
    have hj:j<n:=by have:=(List.getElem?_eq_some_iff.1 hx).1;omega
    rw[List.getElem?_take_of_lt hj]at hx;exact⟨hj,hx⟩
   have:=aZ.sl (M:=M) ⟨A,0,none⟩ C sz (xs.take n) (fun j i=>(M A (j*sz+i)).getD .nilIface) (fun _=>rfl) (by omega) (fun x hx=>hf.hz x (List.mem_of_mem_take hx)) (fun j x hx i y hy=>by
    obtain⟨hj,hx⟩:=key j x hx;obtain⟨v,q1,q2,_⟩:=h3 j x hj hx i y hy;refine⟨?_,by rw[q1];exact q2⟩;show M A (0+j*sz+i)=_;rw[Nat.zero_add,q1];rfl) (fun j x hx i y hy=>by
    obtain⟨hj,hx⟩:=key j x hx;obtain⟨v,q1,_,q3⟩:=h3 j x hj hx i y hy;rw[q1];exact q3.mono hf.mem hf.sg)
   rw[hlen]at this;exact this
 |sj z=>intro v r;cases r;exact .nil z
 |agg ps qs hl _ ih=>
  intro v r
  cases r with
  |agg vs _ hl2 h1 hx=>exact .agg vs qs (hl2.trans hl) h1 (fun j v x q1 q2=>by
    have hj:j<ps.length:=by rw[hl];exact(List.getElem?_eq_some_iff.1 q2).1
    exact ih j ps[j] x (List.getElem?_eq_getElem hj) q2 (hx j v _ q1 (List.getElem?_eq_getElem hj)))
def PM (sp k n sz:Nat) (xs:List PV) (a b:AV):Prop:=(a=b∧∀z l,a≠.so z l)∨∃p q,a=.p p∧b=.p q∧Lc sp k n sz xs p q
theorem av.freeze {P:Program} {f:Nat} {args args2:List AV} {H H0 H':Heap} {r:AV} {l T:Nat} {one:Bool} {sp nx sz k n:Nat} {M:List (Nat×List PV)} {xs:List PV} (h:av P f args2 H0 r H') (hgl:fK H H'=true) (hl:aG H l=some (.store T one sp nx sz M))
 (hs0:∀x,aG H0 x=aG ((l,.store T one sp nx sz (mH k M))::H) x) (hk:rD k M=some xs) (hn:n≤xs.length) (hz:sz≠0) (hlen:args.length=args2.length) (hargs:∀(j:Nat) (a b:AV),args[j]?=some a→args2[j]?=some b→PM sp k n sz xs a b):av P f args H r H':=by
 obtain⟨⟨hb,_⟩,hc⟩:=h;refine⟨⟨hb,hgl⟩,fun g w vs hH hbn hvl hrel=>?_⟩;have s:cp g w 0 ⟨#[],[]⟩ [] H:=⟨rfl,rfl,fun i=>.top _ _,hH,hbn⟩
 have hst:=s.blk hl;obtain⟨A,hA,hown,hpre,cs,E,hcs,hpos,⟨_,_⟩,hzz,hxx⟩:=hst.D4 hz k xs (cW hk)
 let g1:Gh:={ pre:=fun b=>if b=A.1 then n*sz else g.pre b,own:=fun b=>if b=A.1 then none else g.own b,ρ:=g.ρ,σ:=g.σ,sown:=g.sown }
 have himm:∀b o v,bR g w b o=some v→bR g1 w b o=some v:=fun b o v hv=>by
  by_cases q:b=A.1
  ·subst q;simp only[cI]at hv;rw[hpre]at hv;simp at hv
  ·simp only[cI]at hv ⊢
   show(if o<(if b=A.1 then n*sz else g.pre b) then _ else _)=_;rw[if_neg q];exact hv
 have d1:nE g w g1 w l sp:=by
  refine⟨rfl,rfl,fun _ _ _ q=>q,fun _ _ _=>rfl,himm,fun b o h1 h2=>?_,fun b _ hn0=>?_,fun b cs E hb=>⟨cs,E,hb,rfl⟩,fun b o ho=>?_,Nat.le_refl _,rfl,rfl,fun _ _=>rfl⟩
  ·have q:b≠A.1:=fun e=>by subst e;rw[hown]at h1;cases h1;exact h2 rfl
   exact⟨by show(if b=A.1 then none else g.own b)=_;rw[if_neg q];exact h1,by show(if b=A.1 then n*sz else g.pre b)=_;rw[if_neg q],rfl⟩
  ·have q:b≠A.1:=fun e=>by subst e;rw[hown]at hn0;cases hn0
   exact⟨rfl,by show(if b=A.1 then n*sz else g.pre b)=_;rw[if_neg q],by show(if b=A.1 then none else g.own b)=_;rw[if_neg q];exact hn0⟩
  ·replace ho:(if b=A.1 then none else g.own b)=some o:=ho
   split at ho
   ·cases ho
   ·exact hbn b o ho
 have hst2:er g1 w l sp nx sz (mH k M):=by
  refine⟨hst.sown,hst.fresh,fun k2 ys q=>?_,fun k1 k2 ys ys2 b b2 q1 q2 q3 q4 q5=>hst.inj k1 k2 ys ys2 b b2 (mO q1) (mO q2) q3 q4 q5,(uL k M).nodup hst.nodup⟩;obtain⟨b,p1,p2,p3,p4⟩:=hst.row k2 ys (mO q);have hne:b.1≠A.1:=fun e=>Cf hst.nodup q (hst.inj k2 k ys xs b A (mO q) (cW hk) p1 hA e);exact⟨b,p1,by show(if b.1=A.1 then none else g.own b.1)=_;rw[if_neg hne];exact p2,by show(if b.1=A.1 then n*sz else g.pre b.1)=_;rw[if_neg hne];exact p3,p4.mono himm rfl⟩
 obtain⟨s2,hE1⟩:=s.dyn hl d1 hst2;have s3:=s2.Cd (h2:=H0) hs0
 have hdom:∀x,aF H x→aF H0 x:=fun x hx=>by
  unfold aF at *;rw[hs0 x]
  by_cases q:l=x
  ·subst q;rw[aP];rfl
  ·rw[aT q];exact hx
 have hF:OV g w (bR g1 w) sp k n sz xs:=by
  refine⟨himm,fun _ _ _ q=>q,hzz,hpos,A.1,A.2,hA,hn,fun j x hj hx i y hy=>?_⟩;obtain⟨v,q1,q2,q3⟩:=hxx j x hx i y hy;refine⟨v,?_,q2,q3⟩;have hi:i<sz:=by have:=(List.getElem?_eq_some_iff.1 hy).1;rw[hzz x (List.mem_of_getElem? hx)]at this;exact this
  have hlt:j*sz+i<n*sz:=by
   have:=Nat.mul_le_mul_right sz (show j+1≤n by omega);rw[Nat.add_mul,Nat.one_mul]at this;omega
  rw[cI];show(if j*sz+i<(if A.1=A.1 then n*sz else g.pre A.1) then _ else _)=_;rw[if_pos rfl,if_pos hlt];show(match w.heap[A.1]? with|some (.cells c _ _)=>if (none:Option Nat).isSome then none else c[j*sz+i]?|_=>none)=_;rw[hcs];exact q1
 refine(hc g1 w vs s3.heap s3.bnd (hvl.trans hlen) (fun j v b q1 q2=>?_)).mono ?_
 ·have hj:j<args.length:=by rw[hlen];exact(List.getElem?_eq_some_iff.1 q2).1
  have hr:=hrel j v args[j] q1 (List.getElem?_eq_getElem hj);rcases hargs j args[j] b (List.getElem?_eq_getElem hj) q2 with⟨e,_⟩|⟨p,q,e1,e2,hpq⟩
  ·rw[←e]
   exact hr.keep himm (fun x hx=>⟨hdom x hx,rfl⟩) (fun x cs E _ hb=>⟨cs,E,hb,rfl⟩) (fun o b e1 _=>by cases e1)
  ·rw[e1]at hr;subst e2
   exact .p _ _ _ (hpq.rel hF hr.pv)
 ·rintro en w' ⟨v,g',rfl,hv,hH',hbn',hE⟩
  exact⟨v,g',rfl,hv,hH',hbn',hE1.trans hE⟩
end Go.AM
end
section
open Go Go.AM Go.Proofs TK
set_option maxRecDepth 100000
namespace MN
theorem s6 {a:Nat} {b:Bool} {c d e:Nat} {f:List (Nat×List PV)}:a=a∧b=b∧c=c∧d=d∧e=e∧f=f:=⟨rfl,rfl,rfl,rfl,rfl,rfl⟩
theorem aC:Tryz.prog.follows .mixedOrders=true:=by kernel_rfl
end MN
end
section
open Go Go.AM Go.Proofs TK
set_option maxRecDepth 100000
namespace MN
inductive Vl where
 |mk (kind num:Int) (text:ByteArray) (args:List Vl) (cell:Option Nat)
def eP (sp:Nat):Option Nat→PV
 |none=>.fW
 |some k=>.bH sp k
abbrev cS:Nat:=11
mutual
def eV:Vl→PV
 |.mk k n t as_ c=>.agg [.i .i64 k,.i .i64 n,.s t,.sl 5 (bu as_),eP cS c]
def bu:List Vl→List PV
 | []=>[]
 |v::r=>eV v::bu r
end
theorem aR:∀l:List Vl,bu l=l.map eV
 | []=>rfl
 |v::r=>by rw[bu,aR r];rfl
abbrev bf (α:Type):=Nat×List (Nat×α)
def aK {α:Type} (k:Nat):List (Nat×α)→Option α
 | []=>none
 |(a,x)::r=>match Nat.beq a k with|true=>some x|false=>aK k r
def aW {α:Type} (k:Nat) (x:α):List (Nat×α)→List (Nat×α)
 | []=>[]
 |(a,y)::r=>match Nat.beq a k with|true=>(a,x)::r|false=>(a,y)::aW k x r
def gW {α:Type} (k:Nat):List (Nat×α)→List (Nat×α)
 | []=>[]
 |(a,y)::r=>match Nat.beq a k with|true=>r|false=>(a,y)::gW k r
def cC {α:Type} (enc:α→List PV):List (Nat×α)→List (Nat×List PV)
 | []=>[]
 |(a,x)::r=>(a,enc x)::cC enc r
theorem Jp {α:Type} (enc:α→List PV) (k:Nat):∀M:List (Nat×α),rD k (cC enc M)=(aK k M).map enc
 | []=>rfl
 |(a,x)::r=>by
  rw[cC,rD,aK,Jp enc k r]
  cases Nat.beq a k<;>rfl
theorem aq {α:Type} {enc:α→List PV} {k:Nat} {M:List (Nat×α)} {x:α} (h:aK k M=some x):rD k (cC enc M)=some (enc x):=by rw[Jp,h];rfl
theorem bC {α:Type} (enc:α→List PV) {sp z m:Nat} {M:List (Nat×α)} {k:Nat} {a:α} {x:PV} {K:List PV→PV→Prop} (h:aK k M=some a) (hx:(enc a)[0]?=some x) (hK:K (enc a) x):dz (sp=sp∧z+1≠0∧(0=0∨m=z+1)) (Pg (cC enc M) k fun xs=>Bc xs ((0:Nat):Int) (K xs)):=⟨⟨rfl,Nat.succ_ne_zero _,.inl rfl⟩,_,aq h,au (i:=0) hx hK⟩
theorem bM {α:Type} (enc:α→List PV) (k:Nat) (x:α):∀M:List (Nat×α),sset k (enc x) (cC enc M)=cC enc (aW k x M)
 | []=>rfl
 |(a,y)::r=>by
  rw[cC,sset,aW,bM enc k x r]
  cases Nat.beq a k<;>rfl
theorem uo {α:Type} (enc:α→List PV) (k:Nat):∀M:List (Nat×α),mH k (cC enc M)=cC enc (gW k M)
 | []=>rfl
 |(a,y)::r=>by
  rw[cC,mH,gW,uo enc k r]
  cases Nat.beq a k<;>rfl
structure Sc where
 name:ByteArray
 val:Vl
 next:Option Nat
def OZ (sp:Nat):Sc→List PV
 |⟨name,.mk k n t as_ c,s⟩=>[.agg [.s name,.i .i64 k,.i .i64 n,.s t,.sl 5 (bu as_),eP cS c,eP sp s]]
def lD:List ByteArray→List Vl→bf Sc×Option Nat→Option (bf Sc×Option Nat)
 | [],_,z=>some z
 |n::r,v::vs,z=>lD r vs ((z.1.1+1,(z.1.1,⟨n,v,z.2⟩)::z.1.2),some z.1.1)
 |_::_,[],_=>none
noncomputable def Qu:Nat→Option TI:=hint (jQ Tryz.prog) 218 [1000023]
theorem Km:bz Tryz.prog Qu:=(ah Tryz.prog).hint _ _
def zX (sp:Nat) (z:bf Sc):br:=.store 218 true sp z.1 7 (cC (OZ sp) z.2)
theorem uT (sp:Nat) (names:List ByteArray) (vs:List Vl) (z0 R:bf Sc×Option Nat) (hn:names.length≤4611686018427387904) (hF:lD names vs z0=some R):
 av Tryz.prog 54 [.p (eP sp z0.2),.p (.sl 1 (names.map .s)),.p (.sl 5 (bu vs))] [(1000000000,zX sp z0.1)] (.p (eP sp R.2)) [(1000000000,zX sp R.1)]:=by
 unfold zX;refine av.intro Km aC Tryz.func54 rfl (by rfl) (by kernel_rfl) (by show 3≤_;decide) rfl ?_;(conv=>whnf);refine bL Km aC (by kernel_rfl) names.length [0,2,9,10,11] [1000000000] (fun j (z:bf Sc×Option Nat)=>[.p (eP sp z.2),.p (.sl 5 (bu vs)),.p (.sl 1 (names.map .s)),.p (.i .i64 (names.map PV.s).length),.p (.i .i64 (ix j))]) (fun _ z=>[.store 218 true sp z.1.1 7 (cC (OZ sp) z.1.2)]) (fun j z=>lD (names.drop j) (vs.drop j) z=some R) z0 ⟨rfl,rfl,rfl,rfl⟩ hF ?_;rintro j ⟨⟨nx,M⟩,s⟩ hj hQ;(conv=>whnf);refine aj ?_ ?_<;>intro h1<;>conv=>whnf
 ·have hj1:=cm h1 (by simp) hj (by omega)
  obtain⟨a,ha1⟩:∃a,names[j]?=some a:=⟨_,List.getElem?_eq_getElem hj1⟩
  rw[drop_cons ha1]at hQ
  cases hv:vs[j]? with
  |none=>
   rw[List.drop_eq_nil_of_le (List.getElem?_eq_none_iff.1 hv)]at hQ;cases hQ
  |some v=>
   rw[drop_cons hv]at hQ;obtain⟨vk,vn,vt,va,vc⟩:=v;refine bO (x:=.s a) (by simp[ha1]) (by omega) ?_;(conv=>whnf);refine bO (x:=.agg [.i .i64 vk,.i .i64 vn,.s vt,.sl 5 (bu va),eP cS vc]) (by rw[aR];simp[hv,eV]) (by omega) ?_
   cases s with
   |none=>
    (conv=>whnf);exact⟨hj1,((nx+1,(nx,⟨a,.mk vk vn vt va vc,none⟩)::M),some nx),⟨rfl,rfl,rfl,rfl⟩,hQ⟩
   |some k=>
    (conv=>whnf);exact⟨hj1,((nx+1,(nx,⟨a,.mk vk vn vt va vc,some k⟩)::M),some nx),⟨rfl,rfl,rfl,rfl⟩,hQ⟩
 ·have h1:=cq h1 (by simp) hj (by omega)
  subst h1;rw[List.drop_length]at hQ;cases hQ;exact⟨.inl rfl,⟨s6,trivial⟩⟩
def findF (M:List (Nat×Sc)) (name:ByteArray):Nat→Option Nat→Option (Option Vl)
 |_,none=>some none
 |0,some _=>none
 |n+1,some k=>match aK k M with
  |none=>none
  |some c=>match c.name.toList==name.toList with|true=>some (some c.val)|false=>findF M name n c.next
def zV:Vl:=.mk 0 0 ⟨#[]⟩ [] none
def Pm (R:Option Vl):AV:=.cA [.p (eV (R.getD zV)),.p (.b R.isSome)]
theorem find_spec (sp:Nat) (z:bf Sc) (name:ByteArray) (s0:Option Nat) (n:Nat) (R:Option Vl) (hF:findF z.2 name n s0=some R):
 av Tryz.prog 254 [.p (eP sp s0),.p (.s name)] [(1000000000,zX sp z)] (Pm R) [(1000000000,zX sp z)]:=by
 unfold zX;refine av.intro (ah Tryz.prog) aC Tryz.func254 rfl (by rfl) (by kernel_rfl) (by show 2≤_;decide) rfl ?_;(conv=>whnf);refine bL (ah _) aC (by kernel_rfl) n [0,1,4] [4,1000000000] (fun j (s:Option Nat)=>[.p (eP sp s),.p (.s name),.ptr 4 0]) (fun _ _=>[.cells [.p (.i .i64 0),.p (.i .i64 0),.p (.s ⟨#[]⟩),.cu,.p .fW],.store 218 true sp z.1 7 (cC (OZ sp) z.2)]) (fun j s=>findF z.2 name (n-j) s=some R) s0 ⟨rfl,rfl,rfl,rfl⟩ hF ?_;rintro j s hj hQ
 cases s with
 |none=>
  (conv=>whnf);rw[show findF z.2 name (n-j) none=some none by cases n-j<;>rfl]at hQ;cases hQ;exact⟨.inl rfl,⟨s6,trivial⟩⟩
 |some k=>
  obtain⟨m,hm⟩:∃m,n-j=m+1:=by
   cases hq:n-j with
   |zero=>rw[hq]at hQ;cases hQ
   |succ m=>exact⟨m,rfl⟩
  rw[hm,findF]at hQ
  cases hc:aK k z.2 with
  |none=>rw[hc]at hQ;cases hQ
  |some c=>
   rw[hc]at hQ;simp only at hQ;obtain⟨cn,⟨vk,vn,vt,va,vc⟩,cs⟩:=c;(conv=>whnf);refine ag ⟨rfl,by decide,.inl rfl⟩ ?_;refine⟨_,aq hc,?_⟩;refine au (i:=0) rfl ?_;(conv=>whnf);refine aj ?_ ?_<;>intro h1<;>conv=>whnf
   ·rw[show(cn.toList==name.toList)=true from h1]at hQ
    cases hQ;refine ag ⟨rfl,by decide,.inl rfl⟩ ?_;refine⟨_,aq hc,?_⟩;refine au (i:=0) rfl ?_;(conv=>whnf);exact⟨.inl rfl,⟨s6,trivial⟩⟩
   ·rw[show(cn.toList==name.toList)=false from h1]at hQ
    refine ag ⟨rfl,by decide,.inl rfl⟩ ?_;refine⟨_,aq hc,?_⟩;refine au (i:=0) rfl ?_;(conv=>whnf);exact⟨by omega,cs,⟨rfl,rfl,rfl,rfl⟩,by rw[show n-(j+1)=m by omega];exact hQ⟩
end MN
end
section
open Go Go.AM Go.Proofs TK
set_option maxRecDepth 100000
namespace MN
structure Cl where
 gone:Bool
 val:Vl
def zG:Cl→List PV
 |⟨g,.mk k n t as_ c⟩=>[.agg [.b g,.i .i64 k,.i .i64 n,.s t,.sl 5 (bu as_),eP cS c]]
def kH (z:bf Cl):br:=.store 212 true cS z.1 6 (cC zG z.2)
def eu (M:List (Nat×Cl)):Vl→Option (List Vl)
 |.mk k _ _ l c=>match k==8 with
  |false=>some l
  |true=>match c with
   |none=>none
   |some a=>match aK a M with
    |none=>none
    |some x=>match x.gone with|true=>some []|false=>some [x.val]
theorem nF (z:bf Cl) (v:Vl) (R:List Vl) (hF:eu z.2 v=some R):
 av Tryz.prog 120 [.p (eV v)] [(1000000000,kH z)] (.p (.sl 5 (bu R))) [(1000000000,kH z)]:=by
 unfold kH;obtain⟨k,n,t,l,c⟩:=v;unfold eu at hF;dsimp only at hF;rw[eV];refine av.intro (ah Tryz.prog) aC Tryz.func120 rfl (by rfl) (by kernel_rfl) (by show 1≤_;decide) rfl ?_;(conv=>whnf);refine aj ?_ ?_<;>intro h1<;>conv=>whnf
 ·rw[show(k==8)=false by simpa using h1]at hF
  cases hF;exact⟨.inl rfl,⟨s6,trivial⟩⟩
 ·rw[show(k==8)=true by simpa using h1]at hF
  cases c with
  |none=>cases hF
  |some a=>
   simp only at hF
   cases hc:aK a z.2 with
   |none=>rw[hc]at hF;cases hF
   |some x=>
    rw[hc]at hF;obtain⟨g,⟨vk,vn,vt,va,vc⟩⟩:=x;(conv=>whnf);refine ag ⟨rfl,by decide,.inl rfl⟩ ?_;refine⟨_,aq hc,?_⟩;refine au (i:=0) rfl ?_;(conv=>whnf)
    cases g with
    |true=>
     cases hF;(conv=>whnf);exact⟨.inr rfl,⟨s6,trivial⟩⟩
    |false=>
     cases hF;(conv=>whnf);refine ag ⟨rfl,by decide,.inl rfl⟩ ?_;refine⟨_,aq hc,?_⟩;refine au (i:=0) rfl ?_;(conv=>whnf);exact⟨.inr rfl,⟨s6,trivial⟩⟩
end MN
end
section
open Go Go.AM Go.Proofs TK
set_option maxRecDepth 100000
namespace MN
def qO (f:Vl→Int→Option (Bool×Int)):List Vl→Int→Option (Bool×Int)
 | [],s=>some (true,s)
 |v::r,s=>match f v s with
  |none=>none
  |some (false,s')=>some (false,s')
  |some (true,s')=>qO f r s'
def iY (M:List (Nat×Cl)):Nat→Vl→Int→Int→Option (Bool×Int)
 |0,_,_,_=>none
 |n+1,v,d,s=>match decide (s-1<0)||decide (d>40) with
  |true=>some (false,s-1)
  |false=>match eu M v with
   |none=>none
   |some l=>match decide (l.length≤2000000) with
    |false=>none
    |true=>qO (fun v s=>iY M n v (d+1) s) l (s-1)
theorem w8 (M:List (Nat×Cl)):∀(n:Nat) (v:Vl) (d s:Int) (b:Bool) (s':Int),iY M n v d s=some (b,s')→s'≤s∧(b=true→0≤s')
 |0,_,_,_,_,_,h=>by cases h
 |n+1,v,d,s,b,s',h=>by
  unfold iY at h;split at h
  ·cases h;exact⟨by omega,fun q=>by cases q⟩
  ·rename_i hq
   have h0:0≤s-1:=by
    simp only[Bool.or_eq_false_iff,decide_eq_false_iff_not]at hq;omega
   split at h
   ·cases h
   ·rename_i l _
    split at h
    ·cases h
    ·have key:∀(l:List Vl) (s:Int),0≤s→qO (fun v s=>iY M n v (d+1) s) l s=some (b,s')→s'≤s∧(b=true→0≤s'):=by
      intro l
      induction l with
      |nil=>intro s hs hl;cases hl;exact⟨by omega,fun _=>hs⟩
      |cons v r ih=>
       intro s hs hl;rw[qO]at hl;split at hl
       ·cases hl
       ·rename_i s1 h1
        cases hl;have:=w8 M n _ _ _ _ _ h1;exact⟨this.1,fun q=>by cases q⟩
       ·rename_i s1 h1
        have h2:=w8 M n _ _ _ _ _ h1;have h3:=ih s1 (h2.2 rfl) hl;exact⟨by omega,h3.2⟩
     have:=key l (s-1) h0 h;exact⟨by omega,this.2⟩
theorem CM:∀l:List AV,I5 l l
 | []=>trivial
 |_::r=>⟨.inl rfl,CM r⟩
theorem wB (l:List AV):vP (.cells l) (.cells l):=CM l
theorem ud (z:bf Cl):∀(n:Nat) (v:Vl) (d s:Int) (b:Bool) (s':Int),0≤s→s≤1000→0≤d→d≤41→iY z.2 n v d s=some (b,s')→
 av Tryz.prog 81 [.p (eV v),.ptr 1000000000 0,.p (.i .i64 d)] [(1000000000,.cells [.p (.i .i64 s)]),(1000000001,kH z)] (.p (.b b)) [(1000000000,.cells [.p (.i .i64 s')]),(1000000001,kH z)]
 |0,_,_,_,_,_,_,_,_,_,hF=>by cases hF
 |n+1,v,d,s,b,s',hs0,hs1,hd0,hd1,hF=>by
  have ih:=ud z n;unfold iY at hF;obtain⟨vk,vn,vt,va,vc⟩:=v;rw[eV];have hp:=nF z (.mk vk vn vt va vc);rw[eV]at hp;unfold kH at *;refine av.intro (ah Tryz.prog) aC Tryz.func81 rfl (by rfl) (by kernel_rfl) (by show 3≤_;decide) rfl ?_;(conv=>whnf);rw[wrap64 (by omega) (by omega)];have hw:IntKind.i64.wrap (s-1)=s-1:=wrap64 (by omega) (by omega);clear hw;refine aj ?_ ?_<;>intro g1<;>conv=>whnf
  ·rw[show decide (s-1<0)=true from g1,Bool.true_or]at hF
   cases hF;exact⟨.inl rfl,⟨wB _,s6,trivial⟩⟩
  rw[show decide (s-1<0)=false from g1,Bool.false_or]at hF;refine aj ?_ ?_<;>intro g2<;>conv=>whnf
  ·rw[show decide (d>40)=true from g2]at hF
   cases hF;exact⟨.inl rfl,⟨wB _,s6,trivial⟩⟩
  rw[show decide (d>40)=false from g2]at hF;have g1:=of_decide_eq_false g1;have g2:¬d>40:=of_decide_eq_false g2;dsimp only at hF
  cases hpf:eu z.2 (.mk vk vn vt va vc) with
  |none=>rw[hpf]at hF;cases hF
  |some l=>
   rw[hpf]at hF;dsimp only at hF
   cases hll:decide (l.length≤2000000) with
   |false=>rw[hll]at hF;cases hF
   |true=>
    rw[hll]at hF;dsimp only at hF;have hll:=of_decide_eq_true hll;have hp:=hp l hpf;refine bh [1000000001] 300 hp ?_;(conv=>whnf);refine bL (ah _) aC (by kernel_rfl) l.length [1,2,23,24,25] [1000000000,1000000001] (fun j (_:Int)=>[.ptr 1000000000 0,.p (.i .i64 d),.p (.sl 5 (bu l)),.p (.i .i64 (bu l).length),.p (.i .i64 (ix j))]) (fun _ s=>[.cells [.p (.i .i64 s)],.store 212 true cS z.1 6 (cC zG z.2)]) (fun j s1=>0≤s1∧s1≤s∧qO (fun v s=>iY z.2 n v (d+1) s) (l.drop j) s1=some (b,s')) (s-1) ⟨rfl,rfl,rfl,rfl⟩ ⟨by omega,by omega,hF⟩ ?_;rintro j s1 hj ⟨q1,q2,hQ⟩;have hlen:(bu l).length=l.length:=by rw[aR];simp
    (conv=>whnf);refine aj ?_ ?_<;>intro h1<;>conv=>whnf
    ·have hj1:=cm h1 (by rw[hlen]) hj (by omega)
     obtain⟨u,hu⟩:∃u,l[j]?=some u:=⟨_,List.getElem?_eq_getElem hj1⟩
     rw[drop_cons hu,qO]at hQ
     cases hm:iY z.2 n u (d+1) s1 with
     |none=>rw[hm]at hQ;cases hQ
     |some q=>
      obtain⟨b1,s2⟩:=q;rw[hm]at hQ;have hle:=w8 z.2 n u (d+1) s1 b1 s2 hm;have hi:=ih u (d+1) s1 b1 s2 q1 (by omega) (by omega) (by omega) hm;obtain⟨uk,un,ut,ua,uc⟩:=u;rw[eV]at hi;refine bO (x:=.agg [.i .i64 uk,.i .i64 un,.s ut,.sl 5 (bu ua),eP cS uc]) (by rw[aR];simp[hu,eV]) (by omega) ?_;(conv=>whnf);rw[wrap64 (by omega) (by omega)];refine bh [1000000000,1000000001] 400 hi ?_;(conv=>whnf)
      cases b1 with
      |false=>
       cases hQ;(conv=>whnf);exact⟨.inl rfl,⟨wB _,s6,trivial⟩⟩
      |true=>
       (conv=>whnf);exact⟨hj1,s2,⟨rfl,rfl,rfl,rfl⟩,hle.2 rfl,by omega,hQ⟩
    ·have h1:=cq h1 (by rw[hlen]) hj (by omega)
     subst h1;rw[List.drop_length]at hQ;cases hQ;exact⟨.inl rfl,⟨wB _,s6,trivial⟩⟩
end MN
end
section
open Go Go.AM Go.Proofs TK
set_option maxRecDepth 100000
namespace MN
def iX (M:List (Nat×Cl)) (v:Vl):Option Bool:=match iY M 42 v 1 400 with
 |none=>none
 |some q=>some (!q.1)
theorem nC (z:bf Cl) (v:Vl) (b:Bool) (hF:iX z.2 v=some b):av Tryz.prog 53 [.p (eV v)] [(1000000000,kH z)] (.p (.b b)) [(1000000000,kH z)]:=by
 unfold iX at hF
 cases hm:iY z.2 42 v 1 400 with
 |none=>rw[hm]at hF;cases hF
 |some q=>
  obtain⟨b1,s1⟩:=q;rw[hm]at hF;cases hF;have hs:=ud z 42 v 1 400 b1 s1 (by omega) (by omega) (by omega) (by omega) hm;obtain⟨vk,vn,vt,va,vc⟩:=v;rw[eV]at hs ⊢;unfold kH at *;refine av.intro (ah Tryz.prog) aC Tryz.func53 rfl (by rfl) (by kernel_rfl) (by show 1≤_;decide) rfl ?_;(conv=>whnf);refine bh [3,1000000000] 300 hs ?_;(conv=>whnf);exact⟨.inl rfl,⟨s6,trivial⟩⟩
def lP (M:List (Nat×Cl)):List Vl→Option Bool
 | []=>some false
 |v::r=>match iX M v with
  |none=>none
  |some true=>some true
  |some false=>lP M r
theorem mE (z:bf Cl) (l:List Vl) (b:Bool) (hl:l.length≤2000000) (hF:lP z.2 l=some b):av Tryz.prog 39 [.p (.sl 5 (bu l))] [(1000000000,kH z)] (.p (.b b)) [(1000000000,kH z)]:=by
 have hlen:(bu l).length=l.length:=by rw[aR];simp
 have hs:=nC z;unfold kH at *;refine av.intro (ah Tryz.prog) aC Tryz.func39 rfl (by rfl) (by kernel_rfl) (by show 1≤_;decide) rfl ?_;(conv=>whnf);refine bL (ah _) aC (by kernel_rfl) l.length [5,6,7] [1000000000] (fun j (_:Unit)=>[.p (.sl 5 (bu l)),.p (.i .i64 (bu l).length),.p (.i .i64 (ix j))]) (fun _ _=>[.store 212 true cS z.1 6 (cC zG z.2)]) (fun j _=>lP z.2 (l.drop j)=some b) () ⟨rfl,rfl,rfl,rfl⟩ hF ?_;rintro j _ hj hQ;(conv=>whnf);refine aj ?_ ?_<;>intro h1<;>conv=>whnf
 ·have hj1:=cm h1 (by rw[hlen]) hj (by omega)
  obtain⟨u,hu⟩:∃u,l[j]?=some u:=⟨_,List.getElem?_eq_getElem hj1⟩
  rw[drop_cons hu,lP]at hQ
  cases hm:iX z.2 u with
  |none=>rw[hm]at hQ;cases hQ
  |some b1=>
   rw[hm]at hQ;have hi:=hs u b1 hm;obtain⟨uk,un,ut,ua,uc⟩:=u;rw[eV]at hi;refine bO (x:=.agg [.i .i64 uk,.i .i64 un,.s ut,.sl 5 (bu ua),eP cS uc]) (by rw[aR];simp[hu,eV]) (by omega) ?_;(conv=>whnf);refine bh [1000000000] 300 hi ?_;(conv=>whnf)
   cases b1 with
   |true=>
    cases hQ;(conv=>whnf);exact⟨.inl rfl,⟨s6,trivial⟩⟩
   |false=>
    (conv=>whnf);exact⟨hj1,(),⟨rfl,rfl,rfl,rfl⟩,hQ⟩
 ·have h1:=cq h1 (by rw[hlen]) hj (by omega)
  subst h1;rw[List.drop_length]at hQ;cases hQ;exact⟨.inl rfl,⟨s6,trivial⟩⟩
def BH (M:List (Nat×Cl)) (v:Vl):Option (Vl×ByteArray):=match iX M v with
 |none=>none
 |some true=>some (zV,⟨#[108,97,114,103,101]⟩)
 |some false=>some (v,⟨#[]⟩)
theorem Dt (z:bf Cl) (v:Vl) (R:Vl×ByteArray) (hF:BH z.2 v=some R):av Tryz.prog 265 [.p (eV v)] [(1000000000,kH z)] (.cA [.p (eV R.1),.p (.s R.2)]) [(1000000000,kH z)]:=by
 unfold BH at hF
 cases hm:iX z.2 v with
 |none=>rw[hm]at hF;cases hF
 |some b=>
  rw[hm]at hF;have hs:=nC z v b hm;obtain⟨vk,vn,vt,va,vc⟩:=v;rw[eV]at hs ⊢;unfold kH at *;refine av.intro (ah Tryz.prog) aC Tryz.func265 rfl (by rfl) (by kernel_rfl) (by show 1≤_;decide) rfl ?_;(conv=>whnf);refine bh [1000000000] 300 hs ?_;(conv=>whnf)
  cases b with
  |true=>
   cases hF;(conv=>whnf);exact⟨.inl rfl,⟨s6,trivial⟩⟩
  |false=>
   cases hF;(conv=>whnf);exact⟨.inl rfl,⟨s6,trivial⟩⟩
def Fh (M:List (Nat×Cl)):Vl→Option (Vl×ByteArray)
 |.mk k _ _ _ c=>match k==8 with
  |false=>some (zV,⟨#[116,121,112,101]⟩)
  |true=>match c with
   |none=>none
   |some a=>match aK a M with
    |none=>none
    |some x=>match x.gone with|true=>some (zV,⟨#[103,111,110,101]⟩)|false=>some (x.val,⟨#[]⟩)
theorem KN (z:bf Cl) (v:Vl) (R:Vl×ByteArray) (hF:Fh z.2 v=some R):
 av Tryz.prog 266 [.p (eV v)] [(1000000000,kH z)] (.cA [.p (eV R.1),.p (.s R.2)]) [(1000000000,kH z)]:=by
 unfold kH;obtain⟨k,n,t,l,c⟩:=v;unfold Fh at hF;dsimp only at hF;rw[eV];refine av.intro (ah Tryz.prog) aC Tryz.func266 rfl (by rfl) (by kernel_rfl) (by show 1≤_;decide) rfl ?_;(conv=>whnf);refine aj ?_ ?_<;>intro h1<;>conv=>whnf
 ·rw[show(k==8)=false by simpa using h1]at hF
  cases hF;exact⟨.inl rfl,⟨s6,trivial⟩⟩
 ·rw[show(k==8)=true by simpa using h1]at hF
  cases c with
  |none=>cases hF
  |some a=>
   simp only at hF
   cases hc:aK a z.2 with
   |none=>rw[hc]at hF;cases hF
   |some x=>
    rw[hc]at hF;obtain⟨g,⟨vk,vn,vt,va,vc⟩⟩:=x;(conv=>whnf);refine ag ⟨rfl,by decide,.inl rfl⟩ ?_;refine⟨_,aq hc,?_⟩;refine au (i:=0) rfl ?_;(conv=>whnf)
    cases g with
    |true=>
     cases hF;(conv=>whnf);exact⟨.inl rfl,⟨s6,trivial⟩⟩
    |false=>
     cases hF;(conv=>whnf);refine ag ⟨rfl,by decide,.inl rfl⟩ ?_;refine⟨_,aq hc,?_⟩;refine au (i:=0) rfl ?_;(conv=>whnf);exact⟨.inl rfl,⟨s6,trivial⟩⟩
end MN
end
