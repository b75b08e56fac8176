/- Contracts, and the law, for every input. No conditions. -/
import Derived.Test.YtdmopjgjhfhfdaaGreatDoorChecked
import Derived.Test.YtdmopjgjhfhfdaaGreatDoorTKD
import Derived.Test.YtdmopjgjhfhfdaaGreatDoorAMHide
open Go Go.AM Go.Proofs TK
set_option maxRecDepth 100000
namespace MN
theorem s6 {a:Nat} {b:Bool} {c d e:Nat} {f:List (Nat×List PV)}:a=a∧b=b∧c=c∧d=d∧e=e∧f=f:=⟨rfl,rfl,rfl,rfl,rfl,rfl⟩
theorem hmix:Tryz.prog.follows .mixedOrders=true:=by kernel_rfl
end MN
open Go Go.AM Go.Proofs TK
set_option maxRecDepth 100000
namespace MN
inductive Vl where
 |mk (kind num:Int) (text:ByteArray) (args:List Vl) (cell:Option Nat)
def eP (sp:Nat):Option Nat→PV
 |none=>.nilp
 |some k=>.adr sp k
abbrev cS:Nat:=11
mutual
def eV:Vl→PV
 |.mk k n t as_ c=>.agg [.i .i64 k,.i .i64 n,.s t,.sl 5 (eVs as_),eP cS c]
def eVs:List Vl→List PV
 | []=>[]
 |v::r=>eV v::eVs r
end
theorem eVs_map:∀l:List Vl,eVs l=l.map eV
 | []=>rfl
 |v::r=>by rw[eVs,eVs_map r];rfl
abbrev Sto (α:Type):=Nat×List (Nat×α)
def tlk {α:Type} (k:Nat):List (Nat×α)→Option α
 | []=>none
 |(a,x)::r=>match Nat.beq a k with|true=>some x|false=>tlk k r
def tset {α:Type} (k:Nat) (x:α):List (Nat×α)→List (Nat×α)
 | []=>[]
 |(a,y)::r=>match Nat.beq a k with|true=>(a,x)::r|false=>(a,y)::tset k x r
def tdel {α:Type} (k:Nat):List (Nat×α)→List (Nat×α)
 | []=>[]
 |(a,y)::r=>match Nat.beq a k with|true=>r|false=>(a,y)::tdel k r
def enM {α:Type} (enc:α→List PV):List (Nat×α)→List (Nat×List PV)
 | []=>[]
 |(a,x)::r=>(a,enc x)::enM enc r
theorem slk_en {α:Type} (enc:α→List PV) (k:Nat):∀M:List (Nat×α),slk k (enM enc M)=(tlk k M).map enc
 | []=>rfl
 |(a,x)::r=>by
  rw[enM,slk,tlk,slk_en enc k r]
  cases Nat.beq a k<;>rfl
theorem slk_in {α:Type} {enc:α→List PV} {k:Nat} {M:List (Nat×α)} {x:α} (h:tlk k M=some x):slk k (enM enc M)=some (enc x):=by rw[slk_en,h];rfl
theorem lpe {α:Type} (enc:α→List PV) {sp z m:Nat} {M:List (Nat×α)} {k:Nat} {a:α} {x:PV} {K:List PV→PV→Prop} (h:tlk k M=some a) (hx:(enc a)[0]?=some x) (hK:K (enc a) x):ANeed (sp=sp∧z+1≠0∧(0=0∨m=z+1)) (ASt (enM enc M) k fun xs=>AIdx xs ((0:Nat):Int) (K xs)):=⟨⟨rfl,Nat.succ_ne_zero _,.inl rfl⟩,_,slk_in h,aidxn (i:=0) hx hK⟩
theorem sset_en {α:Type} (enc:α→List PV) (k:Nat) (x:α):∀M:List (Nat×α),sset k (enc x) (enM enc M)=enM enc (tset k x M)
 | []=>rfl
 |(a,y)::r=>by
  rw[enM,sset,tset,sset_en enc k x r]
  cases Nat.beq a k<;>rfl
theorem sdel_en {α:Type} (enc:α→List PV) (k:Nat):∀M:List (Nat×α),sdel k (enM enc M)=enM enc (tdel k M)
 | []=>rfl
 |(a,y)::r=>by
  rw[enM,sdel,tdel,sdel_en enc k r]
  cases Nat.beq a k<;>rfl
structure Sc where
 name:ByteArray
 val:Vl
 next:Option Nat
def eSc (sp:Nat):Sc→List PV
 |⟨name,.mk k n t as_ c,s⟩=>[.agg [.s name,.i .i64 k,.i .i64 n,.s t,.sl 5 (eVs as_),eP cS c,eP sp s]]
def withF:List ByteArray→List Vl→Sto Sc×Option Nat→Option (Sto Sc×Option Nat)
 | [],_,z=>some z
 |n::r,v::vs,z=>withF r vs ((z.1.1+1,(z.1.1,⟨n,v,z.2⟩)::z.1.2),some z.1.1)
 |_::_,[],_=>none
noncomputable def tyW:Nat→Option TI:=hint (tyOf Tryz.prog) 218 [1000023]
theorem tyW_ok:TyOK Tryz.prog tyW:=(tyOf_ok Tryz.prog).hint _ _
def hSc (sp:Nat) (z:Sto Sc):AObj:=.store 218 true sp z.1 7 (enM (eSc sp) z.2)
theorem with_spec (sp:Nat) (names:List ByteArray) (vs:List Vl) (z0 R:Sto Sc×Option Nat) (hn:names.length≤4611686018427387904) (hF:withF names vs z0=some R):
 AMem Tryz.prog 54 [.p (eP sp z0.2),.p (.sl 1 (names.map .s)),.p (.sl 5 (eVs vs))] [(1000000000,hSc sp z0.1)] (.p (eP sp R.2)) [(1000000000,hSc sp R.1)]:=by
 unfold hSc;refine AMem.intro tyW_ok hmix Tryz.func54 rfl (by rfl) (by kernel_rfl) (by show 3≤_;decide) rfl ?_;(conv=>whnf);refine loopS tyW_ok hmix (by kernel_rfl) names.length [0,2,9,10,11] [1000000000] (fun j (z:Sto Sc×Option Nat)=>[.p (eP sp z.2),.p (.sl 5 (eVs vs)),.p (.sl 1 (names.map .s)),.p (.i .i64 (names.map PV.s).length),.p (.i .i64 (ix j))]) (fun _ z=>[.store 218 true sp z.1.1 7 (enM (eSc sp) z.1.2)]) (fun j z=>withF (names.drop j) (vs.drop j) z=some R) z0 ⟨rfl,rfl,rfl,rfl⟩ hF ?_;rintro j ⟨⟨nx,M⟩,s⟩ hj hQ;(conv=>whnf);refine asplit ?_ ?_<;>intro h1<;>conv=>whnf
 ·have hj1:=ix_tt h1 (by simp) hj (by omega)
  obtain⟨a,ha1⟩:∃a,names[j]?=some a:=⟨_,List.getElem?_eq_getElem hj1⟩
  rw[drop_cons ha1]at hQ
  cases hv:vs[j]? with
  |none=>
   rw[List.drop_eq_nil_of_le (List.getElem?_eq_none_iff.1 hv)]at hQ;cases hQ
  |some v=>
   rw[drop_cons hv]at hQ;obtain⟨vk,vn,vt,va,vc⟩:=v;refine aidxk (x:=.s a) (by simp[ha1]) (by omega) ?_;(conv=>whnf);refine aidxk (x:=.agg [.i .i64 vk,.i .i64 vn,.s vt,.sl 5 (eVs va),eP cS vc]) (by rw[eVs_map];simp[hv,eV]) (by omega) ?_
   cases s with
   |none=>
    (conv=>whnf);exact⟨hj1,((nx+1,(nx,⟨a,.mk vk vn vt va vc,none⟩)::M),some nx),⟨rfl,rfl,rfl,rfl⟩,hQ⟩
   |some k=>
    (conv=>whnf);exact⟨hj1,((nx+1,(nx,⟨a,.mk vk vn vt va vc,some k⟩)::M),some nx),⟨rfl,rfl,rfl,rfl⟩,hQ⟩
 ·have h1:=ix_ff h1 (by simp) hj (by omega)
  subst h1;rw[List.drop_length]at hQ;cases hQ;exact⟨.inl rfl,⟨s6,trivial⟩⟩
def findF (M:List (Nat×Sc)) (name:ByteArray):Nat→Option Nat→Option (Option Vl)
 |_,none=>some none
 |0,some _=>none
 |n+1,some k=>match tlk k M with
  |none=>none
  |some c=>match c.name.toList==name.toList with|true=>some (some c.val)|false=>findF M name n c.next
def zV:Vl:=.mk 0 0 ⟨#[]⟩ [] none
def eVo (R:Option Vl):AV:=.tup [.p (eV (R.getD zV)),.p (.b R.isSome)]
theorem find_spec (sp:Nat) (z:Sto Sc) (name:ByteArray) (s0:Option Nat) (n:Nat) (R:Option Vl) (hF:findF z.2 name n s0=some R):
 AMem Tryz.prog 254 [.p (eP sp s0),.p (.s name)] [(1000000000,hSc sp z)] (eVo R) [(1000000000,hSc sp z)]:=by
 unfold hSc;refine AMem.intro (tyOf_ok Tryz.prog) hmix Tryz.func254 rfl (by rfl) (by kernel_rfl) (by show 2≤_;decide) rfl ?_;(conv=>whnf);refine loopS (tyOf_ok _) hmix (by kernel_rfl) n [0,1,4] [4,1000000000] (fun j (s:Option Nat)=>[.p (eP sp s),.p (.s name),.ptr 4 0]) (fun _ _=>[.cells [.p (.i .i64 0),.p (.i .i64 0),.p (.s ⟨#[]⟩),.nilS,.p .nilp],.store 218 true sp z.1 7 (enM (eSc sp) z.2)]) (fun j s=>findF z.2 name (n-j) s=some R) s0 ⟨rfl,rfl,rfl,rfl⟩ hF ?_;rintro j s hj hQ
 cases s with
 |none=>
  (conv=>whnf);rw[show findF z.2 name (n-j) none=some none by cases n-j<;>rfl]at hQ;cases hQ;exact⟨.inl rfl,⟨s6,trivial⟩⟩
 |some k=>
  obtain⟨m,hm⟩:∃m,n-j=m+1:=by
   cases hq:n-j with
   |zero=>rw[hq]at hQ;cases hQ
   |succ m=>exact⟨m,rfl⟩
  rw[hm,findF]at hQ
  cases hc:tlk k z.2 with
  |none=>rw[hc]at hQ;cases hQ
  |some c=>
   rw[hc]at hQ;simp only at hQ;obtain⟨cn,⟨vk,vn,vt,va,vc⟩,cs⟩:=c;(conv=>whnf);refine aneed ⟨rfl,by decide,.inl rfl⟩ ?_;refine⟨_,slk_in hc,?_⟩;refine aidxn (i:=0) rfl ?_;(conv=>whnf);refine asplit ?_ ?_<;>intro h1<;>conv=>whnf
   ·rw[show(cn.toList==name.toList)=true from h1]at hQ
    cases hQ;refine aneed ⟨rfl,by decide,.inl rfl⟩ ?_;refine⟨_,slk_in hc,?_⟩;refine aidxn (i:=0) rfl ?_;(conv=>whnf);exact⟨.inl rfl,⟨s6,trivial⟩⟩
   ·rw[show(cn.toList==name.toList)=false from h1]at hQ
    refine aneed ⟨rfl,by decide,.inl rfl⟩ ?_;refine⟨_,slk_in hc,?_⟩;refine aidxn (i:=0) rfl ?_;(conv=>whnf);exact⟨by omega,cs,⟨rfl,rfl,rfl,rfl⟩,by rw[show n-(j+1)=m by omega];exact hQ⟩
end MN
open Go Go.AM Go.Proofs TK
set_option maxRecDepth 100000
namespace MN
structure Cl where
 gone:Bool
 val:Vl
def eCl:Cl→List PV
 |⟨g,.mk k n t as_ c⟩=>[.agg [.b g,.i .i64 k,.i .i64 n,.s t,.sl 5 (eVs as_),eP cS c]]
def hCl (z:Sto Cl):AObj:=.store 212 true cS z.1 6 (enM eCl z.2)
def partsF (M:List (Nat×Cl)):Vl→Option (List Vl)
 |.mk k _ _ l c=>match k==8 with
  |false=>some l
  |true=>match c with
   |none=>none
   |some a=>match tlk a M with
    |none=>none
    |some x=>match x.gone with|true=>some []|false=>some [x.val]
theorem parts_spec (z:Sto Cl) (v:Vl) (R:List Vl) (hF:partsF z.2 v=some R):
 AMem Tryz.prog 120 [.p (eV v)] [(1000000000,hCl z)] (.p (.sl 5 (eVs R))) [(1000000000,hCl z)]:=by
 unfold hCl;obtain⟨k,n,t,l,c⟩:=v;unfold partsF at hF;dsimp only at hF;rw[eV];refine AMem.intro (tyOf_ok Tryz.prog) hmix Tryz.func120 rfl (by rfl) (by kernel_rfl) (by show 1≤_;decide) rfl ?_;(conv=>whnf);refine asplit ?_ ?_<;>intro h1<;>conv=>whnf
 ·rw[show(k==8)=false by simpa using h1]at hF
  cases hF;exact⟨.inl rfl,⟨s6,trivial⟩⟩
 ·rw[show(k==8)=true by simpa using h1]at hF
  cases c with
  |none=>cases hF
  |some a=>
   simp only at hF
   cases hc:tlk a z.2 with
   |none=>rw[hc]at hF;cases hF
   |some x=>
    rw[hc]at hF;obtain⟨g,⟨vk,vn,vt,va,vc⟩⟩:=x;(conv=>whnf);refine aneed ⟨rfl,by decide,.inl rfl⟩ ?_;refine⟨_,slk_in hc,?_⟩;refine aidxn (i:=0) rfl ?_;(conv=>whnf)
    cases g with
    |true=>
     cases hF;(conv=>whnf);exact⟨.inr rfl,⟨s6,trivial⟩⟩
    |false=>
     cases hF;(conv=>whnf);refine aneed ⟨rfl,by decide,.inl rfl⟩ ?_;refine⟨_,slk_in hc,?_⟩;refine aidxn (i:=0) rfl ?_;(conv=>whnf);exact⟨.inr rfl,⟨s6,trivial⟩⟩
end MN
open Go Go.AM Go.Proofs TK
set_option maxRecDepth 100000
namespace MN
def measL (f:Vl→Int→Option (Bool×Int)):List Vl→Int→Option (Bool×Int)
 | [],s=>some (true,s)
 |v::r,s=>match f v s with
  |none=>none
  |some (false,s')=>some (false,s')
  |some (true,s')=>measL f r s'
def measF (M:List (Nat×Cl)):Nat→Vl→Int→Int→Option (Bool×Int)
 |0,_,_,_=>none
 |n+1,v,d,s=>match decide (s-1<0)||decide (d>40) with
  |true=>some (false,s-1)
  |false=>match partsF M v with
   |none=>none
   |some l=>match decide (l.length≤1000000) with
    |false=>none
    |true=>measL (fun v s=>measF M n v (d+1) s) l (s-1)
theorem measF_le (M:List (Nat×Cl)):∀(n:Nat) (v:Vl) (d s:Int) (b:Bool) (s':Int),measF M n v d s=some (b,s')→s'≤s∧(b=true→0≤s')
 |0,_,_,_,_,_,h=>by cases h
 |n+1,v,d,s,b,s',h=>by
  unfold measF at h;split at h
  ·cases h;exact⟨by omega,fun q=>by cases q⟩
  ·rename_i hq
   have h0:0≤s-1:=by
    simp only[Bool.or_eq_false_iff,decide_eq_false_iff_not]at hq;omega
   split at h
   ·cases h
   ·rename_i l _
    split at h
    ·cases h
    ·have key:∀(l:List Vl) (s:Int),0≤s→measL (fun v s=>measF M n v (d+1) s) l s=some (b,s')→s'≤s∧(b=true→0≤s'):=by
      intro l
      induction l with
      |nil=>intro s hs hl;cases hl;exact⟨by omega,fun _=>hs⟩
      |cons v r ih=>
       intro s hs hl;rw[measL]at hl;split at hl
       ·cases hl
       ·rename_i s1 h1
        cases hl;have:=measF_le M n _ _ _ _ _ h1;exact⟨this.1,fun q=>by cases q⟩
       ·rename_i s1 h1
        have h2:=measF_le M n _ _ _ _ _ h1;have h3:=ih s1 (h2.2 rfl) hl;exact⟨by omega,h3.2⟩
     have:=key l (s-1) h0 h;exact⟨by omega,this.2⟩
theorem cle_refl:∀l:List AV,CLe l l
 | []=>trivial
 |_::r=>⟨.inl rfl,cle_refl r⟩
theorem ob_refl (l:List AV):ObLe (.cells l) (.cells l):=cle_refl l
theorem measure_spec (z:Sto Cl):∀(n:Nat) (v:Vl) (d s:Int) (b:Bool) (s':Int),0≤s→s≤1000→0≤d→d≤41→measF z.2 n v d s=some (b,s')→
 AMem Tryz.prog 81 [.p (eV v),.ptr 1000000000 0,.p (.i .i64 d)] [(1000000000,.cells [.p (.i .i64 s)]),(1000000001,hCl z)] (.p (.b b)) [(1000000000,.cells [.p (.i .i64 s')]),(1000000001,hCl z)]
 |0,_,_,_,_,_,_,_,_,_,hF=>by cases hF
 |n+1,v,d,s,b,s',hs0,hs1,hd0,hd1,hF=>by
  have ih:=measure_spec z n;unfold measF at hF;obtain⟨vk,vn,vt,va,vc⟩:=v;rw[eV];have hp:=parts_spec z (.mk vk vn vt va vc);rw[eV]at hp;unfold hCl at *;refine AMem.intro (tyOf_ok Tryz.prog) hmix Tryz.func81 rfl (by rfl) (by kernel_rfl) (by show 3≤_;decide) rfl ?_;(conv=>whnf);rw[wrap64 (by omega) (by omega)];have hw:IntKind.i64.wrap (s-1)=s-1:=wrap64 (by omega) (by omega);clear hw;refine asplit ?_ ?_<;>intro g1<;>conv=>whnf
  ·rw[show decide (s-1<0)=true from g1,Bool.true_or]at hF
   cases hF;exact⟨.inl rfl,⟨ob_refl _,s6,trivial⟩⟩
  rw[show decide (s-1<0)=false from g1,Bool.false_or]at hF;refine asplit ?_ ?_<;>intro g2<;>conv=>whnf
  ·rw[show decide (d>40)=true from g2]at hF
   cases hF;exact⟨.inl rfl,⟨ob_refl _,s6,trivial⟩⟩
  rw[show decide (d>40)=false from g2]at hF;have g1:=of_decide_eq_false g1;have g2:¬d>40:=of_decide_eq_false g2;dsimp only at hF
  cases hpf:partsF z.2 (.mk vk vn vt va vc) with
  |none=>rw[hpf]at hF;cases hF
  |some l=>
   rw[hpf]at hF;dsimp only at hF
   cases hll:decide (l.length≤1000000) with
   |false=>rw[hll]at hF;cases hF
   |true=>
    rw[hll]at hF;dsimp only at hF;have hll:=of_decide_eq_true hll;have hp:=hp l hpf;refine amc [1000000001] 300 hp ?_;(conv=>whnf);refine loopS (tyOf_ok _) hmix (by kernel_rfl) l.length [1,2,23,24,25] [1000000000,1000000001] (fun j (_:Int)=>[.ptr 1000000000 0,.p (.i .i64 d),.p (.sl 5 (eVs l)),.p (.i .i64 (eVs l).length),.p (.i .i64 (ix j))]) (fun _ s=>[.cells [.p (.i .i64 s)],.store 212 true cS z.1 6 (enM eCl z.2)]) (fun j s1=>0≤s1∧s1≤s∧measL (fun v s=>measF z.2 n v (d+1) s) (l.drop j) s1=some (b,s')) (s-1) ⟨rfl,rfl,rfl,rfl⟩ ⟨by omega,by omega,hF⟩ ?_;rintro j s1 hj ⟨q1,q2,hQ⟩;have hlen:(eVs l).length=l.length:=by rw[eVs_map];simp
    (conv=>whnf);refine asplit ?_ ?_<;>intro h1<;>conv=>whnf
    ·have hj1:=ix_tt h1 (by rw[hlen]) hj (by omega)
     obtain⟨u,hu⟩:∃u,l[j]?=some u:=⟨_,List.getElem?_eq_getElem hj1⟩
     rw[drop_cons hu,measL]at hQ
     cases hm:measF z.2 n u (d+1) s1 with
     |none=>rw[hm]at hQ;cases hQ
     |some q=>
      obtain⟨b1,s2⟩:=q;rw[hm]at hQ;have hle:=measF_le z.2 n u (d+1) s1 b1 s2 hm;have hi:=ih u (d+1) s1 b1 s2 q1 (by omega) (by omega) (by omega) hm;obtain⟨uk,un,ut,ua,uc⟩:=u;rw[eV]at hi;refine aidxk (x:=.agg [.i .i64 uk,.i .i64 un,.s ut,.sl 5 (eVs ua),eP cS uc]) (by rw[eVs_map];simp[hu,eV]) (by omega) ?_;(conv=>whnf);rw[wrap64 (by omega) (by omega)];refine amc [1000000000,1000000001] 400 hi ?_;(conv=>whnf)
      cases b1 with
      |false=>
       cases hQ;(conv=>whnf);exact⟨.inl rfl,⟨ob_refl _,s6,trivial⟩⟩
      |true=>
       (conv=>whnf);exact⟨hj1,s2,⟨rfl,rfl,rfl,rfl⟩,hle.2 rfl,by omega,hQ⟩
    ·have h1:=ix_ff h1 (by rw[hlen]) hj (by omega)
     subst h1;rw[List.drop_length]at hQ;cases hQ;exact⟨.inl rfl,⟨ob_refl _,s6,trivial⟩⟩
end MN
open Go Go.AM Go.Proofs TK
set_option maxRecDepth 100000
namespace MN
def largeF (M:List (Nat×Cl)) (v:Vl):Option Bool:=match measF M 42 v 1 400 with
 |none=>none
 |some q=>some (!q.1)
theorem large_spec (z:Sto Cl) (v:Vl) (b:Bool) (hF:largeF z.2 v=some b):AMem Tryz.prog 53 [.p (eV v)] [(1000000000,hCl z)] (.p (.b b)) [(1000000000,hCl z)]:=by
 unfold largeF at hF
 cases hm:measF z.2 42 v 1 400 with
 |none=>rw[hm]at hF;cases hF
 |some q=>
  obtain⟨b1,s1⟩:=q;rw[hm]at hF;cases hF;have hs:=measure_spec z 42 v 1 400 b1 s1 (by omega) (by omega) (by omega) (by omega) hm;obtain⟨vk,vn,vt,va,vc⟩:=v;rw[eV]at hs ⊢;unfold hCl at *;refine AMem.intro (tyOf_ok Tryz.prog) hmix Tryz.func53 rfl (by rfl) (by kernel_rfl) (by show 1≤_;decide) rfl ?_;(conv=>whnf);refine amc [3,1000000000] 300 hs ?_;(conv=>whnf);exact⟨.inl rfl,⟨s6,trivial⟩⟩
def anyLF (M:List (Nat×Cl)):List Vl→Option Bool
 | []=>some false
 |v::r=>match largeF M v with
  |none=>none
  |some true=>some true
  |some false=>anyLF M r
theorem anyLarge_spec (z:Sto Cl) (l:List Vl) (b:Bool) (hl:l.length≤1000000) (hF:anyLF z.2 l=some b):AMem Tryz.prog 39 [.p (.sl 5 (eVs l))] [(1000000000,hCl z)] (.p (.b b)) [(1000000000,hCl z)]:=by
 have hlen:(eVs l).length=l.length:=by rw[eVs_map];simp
 have hs:=large_spec z;unfold hCl at *;refine AMem.intro (tyOf_ok Tryz.prog) hmix Tryz.func39 rfl (by rfl) (by kernel_rfl) (by show 1≤_;decide) rfl ?_;(conv=>whnf);refine loopS (tyOf_ok _) hmix (by kernel_rfl) l.length [5,6,7] [1000000000] (fun j (_:Unit)=>[.p (.sl 5 (eVs l)),.p (.i .i64 (eVs l).length),.p (.i .i64 (ix j))]) (fun _ _=>[.store 212 true cS z.1 6 (enM eCl z.2)]) (fun j _=>anyLF z.2 (l.drop j)=some b) () ⟨rfl,rfl,rfl,rfl⟩ hF ?_;rintro j _ hj hQ;(conv=>whnf);refine asplit ?_ ?_<;>intro h1<;>conv=>whnf
 ·have hj1:=ix_tt h1 (by rw[hlen]) hj (by omega)
  obtain⟨u,hu⟩:∃u,l[j]?=some u:=⟨_,List.getElem?_eq_getElem hj1⟩
  rw[drop_cons hu,anyLF]at hQ
  cases hm:largeF z.2 u with
  |none=>rw[hm]at hQ;cases hQ
  |some b1=>
   rw[hm]at hQ;have hi:=hs u b1 hm;obtain⟨uk,un,ut,ua,uc⟩:=u;rw[eV]at hi;refine aidxk (x:=.agg [.i .i64 uk,.i .i64 un,.s ut,.sl 5 (eVs ua),eP cS uc]) (by rw[eVs_map];simp[hu,eV]) (by omega) ?_;(conv=>whnf);refine amc [1000000000] 300 hi ?_;(conv=>whnf)
   cases b1 with
   |true=>
    cases hQ;(conv=>whnf);exact⟨.inl rfl,⟨s6,trivial⟩⟩
   |false=>
    (conv=>whnf);exact⟨hj1,(),⟨rfl,rfl,rfl,rfl⟩,hQ⟩
 ·have h1:=ix_ff h1 (by rw[hlen]) hj (by omega)
  subst h1;rw[List.drop_length]at hQ;cases hQ;exact⟨.inl rfl,⟨s6,trivial⟩⟩
def fitF (M:List (Nat×Cl)) (v:Vl):Option (Vl×ByteArray):=match largeF M v with
 |none=>none
 |some true=>some (zV,⟨#[108,97,114,103,101]⟩)
 |some false=>some (v,⟨#[]⟩)
theorem fit_spec (z:Sto Cl) (v:Vl) (R:Vl×ByteArray) (hF:fitF z.2 v=some R):AMem Tryz.prog 265 [.p (eV v)] [(1000000000,hCl z)] (.tup [.p (eV R.1),.p (.s R.2)]) [(1000000000,hCl z)]:=by
 unfold fitF at hF
 cases hm:largeF z.2 v with
 |none=>rw[hm]at hF;cases hF
 |some b=>
  rw[hm]at hF;have hs:=large_spec z v b hm;obtain⟨vk,vn,vt,va,vc⟩:=v;rw[eV]at hs ⊢;unfold hCl at *;refine AMem.intro (tyOf_ok Tryz.prog) hmix Tryz.func265 rfl (by rfl) (by kernel_rfl) (by show 1≤_;decide) rfl ?_;(conv=>whnf);refine amc [1000000000] 300 hs ?_;(conv=>whnf)
  cases b with
  |true=>
   cases hF;(conv=>whnf);exact⟨.inl rfl,⟨s6,trivial⟩⟩
  |false=>
   cases hF;(conv=>whnf);exact⟨.inl rfl,⟨s6,trivial⟩⟩
def getF (M:List (Nat×Cl)):Vl→Option (Vl×ByteArray)
 |.mk k _ _ _ c=>match k==8 with
  |false=>some (zV,⟨#[116,121,112,101]⟩)
  |true=>match c with
   |none=>none
   |some a=>match tlk a M with
    |none=>none
    |some x=>match x.gone with|true=>some (zV,⟨#[103,111,110,101]⟩)|false=>some (x.val,⟨#[]⟩)
theorem get_spec (z:Sto Cl) (v:Vl) (R:Vl×ByteArray) (hF:getF z.2 v=some R):
 AMem Tryz.prog 266 [.p (eV v)] [(1000000000,hCl z)] (.tup [.p (eV R.1),.p (.s R.2)]) [(1000000000,hCl z)]:=by
 unfold hCl;obtain⟨k,n,t,l,c⟩:=v;unfold getF at hF;dsimp only at hF;rw[eV];refine AMem.intro (tyOf_ok Tryz.prog) hmix Tryz.func266 rfl (by rfl) (by kernel_rfl) (by show 1≤_;decide) rfl ?_;(conv=>whnf);refine asplit ?_ ?_<;>intro h1<;>conv=>whnf
 ·rw[show(k==8)=false by simpa using h1]at hF
  cases hF;exact⟨.inl rfl,⟨s6,trivial⟩⟩
 ·rw[show(k==8)=true by simpa using h1]at hF
  cases c with
  |none=>cases hF
  |some a=>
   simp only at hF
   cases hc:tlk a z.2 with
   |none=>rw[hc]at hF;cases hF
   |some x=>
    rw[hc]at hF;obtain⟨g,⟨vk,vn,vt,va,vc⟩⟩:=x;(conv=>whnf);refine aneed ⟨rfl,by decide,.inl rfl⟩ ?_;refine⟨_,slk_in hc,?_⟩;refine aidxn (i:=0) rfl ?_;(conv=>whnf)
    cases g with
    |true=>
     cases hF;(conv=>whnf);exact⟨.inl rfl,⟨s6,trivial⟩⟩
    |false=>
     cases hF;(conv=>whnf);refine aneed ⟨rfl,by decide,.inl rfl⟩ ?_;refine⟨_,slk_in hc,?_⟩;refine aidxn (i:=0) rfl ?_;(conv=>whnf);exact⟨.inl rfl,⟨s6,trivial⟩⟩
end MN
open Go Go.AM Go.Proofs TK
set_option maxRecDepth 100000
namespace MN
def eqC (M:List (Nat×Cl)) (c:Option Nat) (a:Nat):Option Bool:=match c with
 |none=>some false
 |some b=>match tlk b M with
  |none=>none
  |some _=>match tlk a M with
   |none=>none
   |some _=>some (Nat.beq b a)
def holdL (f:Vl→Option Bool):List Vl→Option Bool
 | []=>some false
 |v::r=>match f v with
  |none=>none
  |some true=>some true
  |some false=>holdL f r
def Vl.cell:Vl→Option Nat
 |.mk _ _ _ _ c=>c
def holdsF (M:List (Nat×Cl)) (a:Nat):Nat→Vl→Option Bool
 |0,_=>none
 |n+1,v=>match eqC M v.cell a with
  |none=>none
  |some true=>some true
  |some false=>match partsF M v with
   |none=>none
   |some l=>match decide (l.length≤1000000) with
    |false=>none
    |true=>holdL (holdsF M a n) l
theorem holds_spec (z:Sto Cl) (a:Nat):∀(n:Nat) (v:Vl) (b:Bool),holdsF z.2 a n v=some b→
 AMem Tryz.prog 271 [.p (eV v),.p (.adr cS a)] [(1000000000,hCl z)] (.p (.b b)) [(1000000000,hCl z)]
 |0,_,_,hF=>by cases hF
 |n+1,v,b,hF=>by
  have ih:=holds_spec z a n;unfold holdsF at hF;obtain⟨vk,vn,vt,va,vc⟩:=v;rw[eV];have hp:=parts_spec z (.mk vk vn vt va vc);rw[eV]at hp;unfold hCl at *;rw[Vl.cell]at hF
  have main:(match partsF z.2 (.mk vk vn vt va vc) with|none=>none|some l=>match decide (l.length≤1000000) with|false=>none|true=>holdL (holdsF z.2 a n) l)=some b→
   ∀R:List Vl,partsF z.2 (.mk vk vn vt va vc)=some R→R.length≤1000000∧holdL (holdsF z.2 a n) R=some b:=fun h R hR=>by
   rw[hR]at h;dsimp only at h;split at h
   ·cases h
   ·rename_i q;exact⟨of_decide_eq_true q,h⟩
  have some_:(match partsF z.2 (.mk vk vn vt va vc) with|none=>none|some l=>match decide (l.length≤1000000) with|false=>none|true=>holdL (holdsF z.2 a n) l)=some b→∃R,partsF z.2 (.mk vk vn vt va vc)=some R:=fun h=>by
   cases hq:partsF z.2 (.mk vk vn vt va vc) with
   |none=>rw[hq]at h;cases h
   |some R=>exact⟨R,rfl⟩
  refine AMem.intro (tyOf_ok Tryz.prog) hmix Tryz.func271 rfl (by rfl) (by kernel_rfl) (by show 2≤_;decide) rfl ?_;(conv=>whnf)
  cases vc with
  |none=>
   (conv=>whnf);rw[show eqC z.2 none a=some false from rfl]at hF;dsimp only at hF;obtain⟨R,hR⟩:=some_ hF;obtain⟨hRl,hQ0⟩:=main hF R hR;have hp:=hp R hR;clear main some_ hF;have hlen:(eVs R).length=R.length:=by rw[eVs_map];simp
   (conv=>whnf);refine amc [1000000000] 300 hp ?_;(conv=>whnf);refine loopS (tyOf_ok _) hmix (by kernel_rfl) R.length [1,12,13,14] [1000000000] (fun j (_:Unit)=>[.p (.adr cS a),.p (.sl 5 (eVs R)),.p (.i .i64 (eVs R).length),.p (.i .i64 (ix j))]) (fun _ _=>[.store 212 true cS z.1 6 (enM eCl z.2)]) (fun j _=>holdL (holdsF z.2 a n) (R.drop j)=some b) () ⟨rfl,rfl,rfl,rfl⟩ hQ0 ?_;rintro j _ hj hQ;(conv=>whnf);refine asplit ?_ ?_<;>intro h1<;>conv=>whnf
   ·have hj1:=ix_tt h1 (by rw[hlen]) hj (by omega)
    obtain⟨u,hu⟩:∃u,R[j]?=some u:=⟨_,List.getElem?_eq_getElem hj1⟩
    rw[drop_cons hu,holdL]at hQ
    cases hm:holdsF z.2 a n u with
    |none=>rw[hm]at hQ;cases hQ
    |some b1=>
     rw[hm]at hQ;have hi:=ih u b1 hm;obtain⟨uk,un,ut,ua,uc⟩:=u;rw[eV]at hi;refine aidxk (x:=.agg [.i .i64 uk,.i .i64 un,.s ut,.sl 5 (eVs ua),eP cS uc]) (by rw[eVs_map];simp[hu,eV]) (by omega) ?_;(conv=>whnf);refine amc [1000000000] 300 hi ?_;(conv=>whnf)
     cases b1 with
     |true=>
      cases hQ;(conv=>whnf);exact⟨.inl rfl,⟨s6,trivial⟩⟩
     |false=>
      (conv=>whnf);exact⟨hj1,(),⟨rfl,rfl,rfl,rfl⟩,hQ⟩
   ·have h1:=ix_ff h1 (by rw[hlen]) hj (by omega)
    subst h1;rw[List.drop_length]at hQ;cases hQ;exact⟨.inl rfl,⟨s6,trivial⟩⟩
  |some k=>
   unfold eqC at hF;dsimp only at hF
   cases hk:tlk k z.2 with
   |none=>rw[hk]at hF;cases hF
   |some ck=>
    rw[hk]at hF
    cases ha:tlk a z.2 with
    |none=>rw[ha]at hF;cases hF
    |some ca=>
     rw[ha]at hF;dsimp only at hF;(conv=>whnf);refine aneed ⟨rfl,rfl,by decide,by rw[slk_in hk];rfl,by rw[slk_in ha];rfl⟩ ?_;(conv=>whnf);refine asplit ?_ ?_<;>intro h0<;>conv=>whnf
     ·rw[show Nat.beq k a=true from h0]at hF
      cases hF;exact⟨.inl rfl,⟨s6,trivial⟩⟩
     ·rw[show Nat.beq k a=false from h0]at hF
      dsimp only at hF;obtain⟨R,hR⟩:=some_ hF;obtain⟨hRl,hQ0⟩:=main hF R hR;have hp:=hp R hR;clear main some_ hF;have hlen:(eVs R).length=R.length:=by rw[eVs_map];simp
      (conv=>whnf);refine amc [1000000000] 300 hp ?_;(conv=>whnf);refine loopS (tyOf_ok _) hmix (by kernel_rfl) R.length [1,12,13,14] [1000000000] (fun j (_:Unit)=>[.p (.adr cS a),.p (.sl 5 (eVs R)),.p (.i .i64 (eVs R).length),.p (.i .i64 (ix j))]) (fun _ _=>[.store 212 true cS z.1 6 (enM eCl z.2)]) (fun j _=>holdL (holdsF z.2 a n) (R.drop j)=some b) () ⟨rfl,rfl,rfl,rfl⟩ hQ0 ?_;rintro j _ hj hQ;(conv=>whnf);refine asplit ?_ ?_<;>intro h1<;>conv=>whnf
      ·have hj1:=ix_tt h1 (by rw[hlen]) hj (by omega)
       obtain⟨u,hu⟩:∃u,R[j]?=some u:=⟨_,List.getElem?_eq_getElem hj1⟩
       rw[drop_cons hu,holdL]at hQ
       cases hm:holdsF z.2 a n u with
       |none=>rw[hm]at hQ;cases hQ
       |some b1=>
        rw[hm]at hQ;have hi:=ih u b1 hm;obtain⟨uk,un,ut,ua,uc⟩:=u;rw[eV]at hi;refine aidxk (x:=.agg [.i .i64 uk,.i .i64 un,.s ut,.sl 5 (eVs ua),eP cS uc]) (by rw[eVs_map];simp[hu,eV]) (by omega) ?_;(conv=>whnf);refine amc [1000000000] 300 hi ?_;(conv=>whnf)
        cases b1 with
        |true=>
         cases hQ;(conv=>whnf);exact⟨.inl rfl,⟨s6,trivial⟩⟩
        |false=>
         (conv=>whnf);exact⟨hj1,(),⟨rfl,rfl,rfl,rfl⟩,hQ⟩
      ·have h1:=ix_ff h1 (by rw[hlen]) hj (by omega)
       subst h1;rw[List.drop_length]at hQ;cases hQ;exact⟨.inl rfl,⟨s6,trivial⟩⟩
end MN
open Go Go.AM Go.Proofs TK
set_option maxRecDepth 100000
namespace MN
noncomputable def tyP:Nat→Option TI:=hint (tyOf Tryz.prog) 212 [1000018]
theorem tyP_ok:TyOK Tryz.prog tyP:=(tyOf_ok Tryz.prog).hint _ _
def wLarge:ByteArray:=⟨#[108,97,114,103,101]⟩
def wType:ByteArray:=⟨#[116,121,112,101]⟩
def wGone:ByteArray:=⟨#[103,111,110,101]⟩
def putF (z:Sto Cl) (v x:Vl):Option (ByteArray×Sto Cl):=match v with
 |.mk k _ _ _ c=>match k==8 with
  |false=>some (wType,z)
  |true=>match c with
   |none=>none
   |some a=>match tlk a z.2 with
    |none=>none
    |some q=>match q.gone with
     |true=>some (wGone,z)
     |false=>match largeF ((z.1,⟨false,x⟩)::z.2) (.mk 8 0 ⟨#[]⟩ [] (some z.1)) with
      |none=>none
      |some true=>some (wLarge,(z.1+1,(z.1,⟨false,x⟩)::z.2))
      |some false=>match holdsF ((z.1,⟨false,x⟩)::z.2) a 45 x with
       |none=>none
       |some true=>some (wLarge,(z.1+1,(z.1,⟨false,x⟩)::z.2))
       |some false=>match tlk a ((z.1,(⟨false,x⟩:Cl))::z.2) with
        |none=>none
        |some q2=>some (⟨#[]⟩,(z.1+1,tset a ⟨q2.gone,x⟩ ((z.1,⟨false,x⟩)::z.2)))
theorem put_spec (z:Sto Cl) (v x:Vl) (R:ByteArray×Sto Cl) (hF:putF z v x=some R):
 AMem Tryz.prog 267 [.p (eV v),.p (eV x)] [(1000000000,hCl z)] (.p (.s R.1)) [(1000000000,hCl R.2)]:=by
 unfold putF at hF;obtain⟨k,n,t,l,c⟩:=v;obtain⟨xk,xn,xt,xa,xc⟩:=x;dsimp only at hF;have hs:=fun b=>large_spec (z.1+1,(z.1,⟨false,.mk xk xn xt xa xc⟩)::z.2) (.mk 8 0 ⟨#[]⟩ [] (some z.1)) b;have hh:=fun a b=>holds_spec (z.1+1,(z.1,⟨false,.mk xk xn xt xa xc⟩)::z.2) a 45 (.mk xk xn xt xa xc) b;rw[eV,eV];rw[eV]at hs hh;unfold hCl at *;refine AMem.intro tyP_ok hmix Tryz.func267 rfl (by rfl) (by kernel_rfl) (by show 2≤_;decide) rfl ?_;(conv=>whnf);refine asplit ?_ ?_<;>intro h1<;>conv=>whnf
 ·rw[show(k==8)=false by simpa using h1]at hF
  cases hF;exact⟨.inl rfl,⟨s6,trivial⟩⟩
 ·rw[show(k==8)=true by simpa using h1]at hF
  cases c with
  |none=>cases hF
  |some a=>
   dsimp only at hF
   cases hc:tlk a z.2 with
   |none=>rw[hc]at hF;cases hF
   |some q=>
    rw[hc]at hF;obtain⟨g,⟨vk,vn,vt,va,vc⟩⟩:=q;(conv=>whnf);refine aneed ⟨rfl,by decide,.inl rfl⟩ ?_;refine⟨_,slk_in hc,?_⟩;refine aidxn (i:=0) rfl ?_;(conv=>whnf)
    cases g with
    |true=>
     cases hF;(conv=>whnf);exact⟨.inl rfl,⟨s6,trivial⟩⟩
    |false=>
     dsimp only at hF;(conv=>whnf)
     cases hl:largeF ((z.1,⟨false,.mk xk xn xt xa xc⟩)::z.2) (.mk 8 0 ⟨#[]⟩ [] (some z.1)) with
     |none=>rw[hl]at hF;cases hF
     |some b1=>
      rw[hl]at hF;refine amc [1000000000] 300 (hs b1 hl) ?_;(conv=>whnf)
      cases b1 with
      |true=>
       cases hF;(conv=>whnf);exact⟨.inl rfl,⟨s6,trivial⟩⟩
      |false=>
       dsimp only at hF;(conv=>whnf)
       cases ho:holdsF ((z.1,⟨false,.mk xk xn xt xa xc⟩)::z.2) a 45 (.mk xk xn xt xa xc) with
       |none=>rw[ho]at hF;cases hF
       |some b2=>
        rw[ho]at hF;refine amc [1000000000] 300 (hh a b2 ho) ?_;(conv=>whnf)
        cases b2 with
        |true=>
         cases hF;(conv=>whnf);exact⟨.inl rfl,⟨s6,trivial⟩⟩
        |false=>
         dsimp only at hF
         cases hc2:tlk a ((z.1,(⟨false,.mk xk xn xt xa xc⟩:Cl))::z.2) with
         |none=>rw[hc2]at hF;cases hF
         |some q2=>
          rw[hc2]at hF;cases hF;obtain⟨g2,⟨wk,wn,wt,wa,wc⟩⟩:=q2;(conv=>whnf);refine aneed ⟨rfl,by decide,.inl rfl⟩ ?_;refine⟨_,slk_in (enc:=eCl) hc2,?_⟩;refine aidxn (i:=0) rfl ?_;(conv=>whnf);refine⟨.inl rfl,⟨⟨rfl,rfl,rfl,rfl,rfl,?_⟩,trivial⟩⟩;exact sset_en eCl a ⟨g2,.mk xk xn xt xa xc⟩ ((z.1,⟨false,.mk xk xn xt xa xc⟩)::z.2)
end MN
open Go Go.AM Go.Proofs TK
set_option maxRecDepth 100000
namespace MN
abbrev vI (k n:Int):Vl:=.mk k n ⟨#[]⟩ [] none
theorem unit_spec:APure Tryz.prog 261 [] (.p (eV (vI 1 0))):=by
 refine APure.intro (tyOf_ok Tryz.prog) hmix Tryz.func261 rfl (by rfl) (by kernel_rfl) (by show 0≤_;decide) rfl ?_;(conv=>whnf);exact .inl rfl
theorem int_spec (n:Int):APure Tryz.prog 262 [.p (.i .i64 n)] (.p (eV (vI 2 n))):=by
 refine APure.intro (tyOf_ok Tryz.prog) hmix Tryz.func262 rfl (by rfl) (by kernel_rfl) (by show 1≤_;decide) rfl ?_;(conv=>whnf);exact .inl rfl
theorem ref_spec (n:Int):APure Tryz.prog 264 [.p (.i .i64 n)] (.p (eV (vI 6 n))):=by
 refine APure.intro (tyOf_ok Tryz.prog) hmix Tryz.func264 rfl (by rfl) (by kernel_rfl) (by show 1≤_;decide) rfl ?_;(conv=>whnf);exact .inl rfl
def bI:Bool→Int
 |true=>1
 |false=>0
theorem bool_spec (b:Bool):APure Tryz.prog 263 [.p (.b b)] (.p (eV (vI 3 (bI b)))):=by
 cases b with
 |true=>
  refine APure.intro (tyOf_ok Tryz.prog) hmix Tryz.func263 rfl (by rfl) (by kernel_rfl) (by show 1≤_;decide) rfl ?_;(conv=>whnf);exact .inl rfl
 |false=>
  refine APure.intro (tyOf_ok Tryz.prog) hmix Tryz.func263 rfl (by rfl) (by kernel_rfl) (by show 1≤_;decide) rfl ?_;(conv=>whnf);exact .inl rfl
def basicF (k:Int):ByteArray:=match k==1 with
 |true=>⟨#[117,110,105,116]⟩
 |false=>match k==2 with
  |true=>⟨#[105,110,116]⟩
  |false=>match k==3 with
   |true=>⟨#[98,111,111,108]⟩
   |false=>match k==4 with
    |true=>⟨#[116,101,120,116]⟩
    |false=>⟨#[]⟩
theorem basic_spec (k:Int):APure Tryz.prog 270 [.p (.i .i64 k)] (.p (.s (basicF k))):=by
 unfold basicF;refine APure.intro (tyOf_ok Tryz.prog) hmix Tryz.func270 rfl (by rfl) (by kernel_rfl) (by show 1≤_;decide) rfl ?_;(conv=>whnf);refine asplit ?_ ?_<;>intro h1<;>conv=>whnf
 ·rw[show(k==1)=true from h1];exact .inl rfl
 rw[show(k==1)=false from h1];refine asplit ?_ ?_<;>intro h2<;>conv=>whnf
 ·rw[show(k==2)=true from h2];exact .inl rfl
 rw[show(k==2)=false from h2];refine asplit ?_ ?_<;>intro h3<;>conv=>whnf
 ·rw[show(k==3)=true from h3];exact .inl rfl
 rw[show(k==3)=false from h3];refine asplit ?_ ?_<;>intro h4<;>conv=>whnf
 ·rw[show(k==4)=true from h4];exact .inl rfl
 rw[show(k==4)=false from h4];exact .inl rfl
def wZero:ByteArray:=⟨#[122,101,114,111]⟩
def opIs (s:ByteArray) (c:UInt8):Bool:=s.toList==(⟨#[c]⟩:ByteArray).toList
def arithF (op:ByteArray) (a b:Int):Vl×ByteArray:=match opIs op 43 with
 |true=>(vI 2 (IntKind.i64.wrap (a+b)),⟨#[]⟩)
 |false=>match opIs op 45 with
  |true=>(vI 2 (IntKind.i64.wrap (a-b)),⟨#[]⟩)
  |false=>match opIs op 42 with
   |true=>(vI 2 (IntKind.i64.wrap (a*b)),⟨#[]⟩)
   |false=>match b==0 with
    |true=>(zV,wZero)
    |false=>match opIs op 47 with
     |true=>(vI 2 (IntKind.i64.wrap (a.tdiv b)),⟨#[]⟩)
     |false=>(vI 2 (a.tmod b),⟨#[]⟩)
theorem arith_spec (op:ByteArray) (a b:Int):APure Tryz.prog 269 [.p (.s op),.p (.i .i64 a),.p (.i .i64 b)] (.tup [.p (eV (arithF op a b).1),.p (.s (arithF op a b).2)]):=by
 unfold arithF;refine APure.intro (tyOf_ok Tryz.prog) hmix Tryz.func269 rfl (by rfl) (by kernel_rfl) (by show 3≤_;decide) rfl ?_;(conv=>whnf);refine asplit ?_ ?_<;>intro h1<;>conv=>whnf
 ·rw[show opIs op 43=true from h1]
  refine apc (int_spec _) ?_;(conv=>whnf);exact .inl rfl
 rw[show opIs op 43=false from h1];refine asplit ?_ ?_<;>intro h2<;>conv=>whnf
 ·rw[show opIs op 45=true from h2]
  refine apc (int_spec _) ?_;(conv=>whnf);exact .inl rfl
 rw[show opIs op 45=false from h2];refine asplit ?_ ?_<;>intro h3<;>conv=>whnf
 ·rw[show opIs op 42=true from h3]
  refine apc (int_spec _) ?_;(conv=>whnf);exact .inl rfl
 rw[show opIs op 42=false from h3];refine asplit ?_ ?_<;>intro h4<;>conv=>whnf
 ·rw[show(b==0)=true from h4]
  exact .inl rfl
 rw[show(b==0)=false from h4];have hb:b≠0:=fun q=>by subst q;exact absurd h4 (by decide)
 refine asplit ?_ ?_<;>intro h5<;>conv=>whnf
 ·rw[show opIs op 47=true from h5]
  refine aneed ⟨rfl,hb⟩ ?_;(conv=>whnf);refine apc (int_spec _) ?_;(conv=>whnf);exact .inl rfl
 rw[show opIs op 47=false from h5];refine aneed ⟨rfl,hb⟩ ?_;(conv=>whnf);refine apc (int_spec _) ?_;(conv=>whnf);exact .inl rfl
end MN
open Go Go.AM Go.Proofs TK
set_option maxRecDepth 100000
namespace MN
def Vl.kind:Vl→Int
 |.mk k _ _ _ _=>k
def Vl.num:Vl→Int
 |.mk _ n _ _ _=>n
def Vl.text:Vl→ByteArray
 |.mk _ _ t _ _=>t
def Vl.args:Vl→List Vl
 |.mk _ _ _ l _=>l
def isFC (v:Vl):Bool:=(v.kind==7)||(v.kind==8)
def sameL (f:Vl→Vl→Option (Bool×ByteArray)):List Vl→List Vl→Option (Bool×ByteArray)
 | [],_=>some (true,⟨#[]⟩)
 |_::_,[]=>none
 |a::r,b::s=>match f a b with
  |none=>none
  |some (false,w)=>some (false,w)
  |some (true,_)=>sameL f r s
def sameF:Nat→Vl→Vl→Option (Bool×ByteArray)
 |0,_,_=>none
 |n+1,a,b=>match isFC a||isFC b with
  |true=>some (false,wType)
  |false=>match a.kind==b.kind with
   |false=>some (false,wType)
   |true=>match !(a.num==b.num)||!(a.text.toList==b.text.toList)||!(((eVs a.args).length:Int)==((eVs b.args).length:Int)) with
    |true=>some (false,⟨#[]⟩)
    |false=>match Nat.ble a.args.length 1000000 with
     |false=>none
     |true=>sameL (sameF n) a.args b.args
theorem same_spec:∀(n:Nat) (a b:Vl) (R:Bool×ByteArray),sameF n a b=some R→APure Tryz.prog 268 [.p (eV a),.p (eV b)] (.tup [.p (.b R.1),.p (.s R.2)])
 |0,_,_,_,hF=>by cases hF
 |n+1,a,b,R,hF=>by
  have ih:=same_spec n;unfold sameF at hF;obtain⟨ak,an,at_,al,ac⟩:=a;obtain⟨bk,bn,bt,bl,bc⟩:=b;rw[eV,eV];have hlen:(eVs al).length=al.length:=by rw[eVs_map];simp
  generalize hA:PV.agg [.i .i64 ak,.i .i64 an,.s at_,.sl 5 (eVs al),eP cS ac]=pa;generalize hB:PV.agg [.i .i64 bk,.i .i64 bn,.s bt,.sl 5 (eVs bl),eP cS bc]=pb;subst hA;subst hB;refine APure.intro (tyOf_ok Tryz.prog) hmix Tryz.func268 rfl (by rfl) (by kernel_rfl) (by show 2≤_;decide) rfl ?_;(conv=>whnf);refine loopS (tyOf_ok _) hmix (by kernel_rfl) 2 [2,3,13,14,15] [2,3] (fun j (_:Unit)=>[.ptr 2 0,.ptr 3 0,.so 5 ([.agg [.i .i64 ak,.i .i64 an,.s at_,.sl 5 (eVs al),eP cS ac],.agg [.i .i64 bk,.i .i64 bn,.s bt,.sl 5 (eVs bl),eP cS bc]]),.p (.i .i64 2),.p (.i .i64 (ix j))]) (fun _ _=>[.cells (pCells [.i .i64 ak,.i .i64 an,.s at_,.sl 5 (eVs al),eP cS ac]),.cells (pCells [.i .i64 bk,.i .i64 bn,.s bt,.sl 5 (eVs bl),eP cS bc])]) (fun j _=>(1≤j→isFC (.mk ak an at_ al ac)=false)∧(2≤j→isFC (.mk bk bn bt bl bc)=false)) () ⟨rfl,rfl,rfl,rfl⟩ ⟨by omega,by omega⟩ ?_;rintro j _ hj ⟨q1,q2⟩;(conv=>whnf);refine asplit ?_ ?_<;>intro h1<;>conv=>whnf
  ·have hj1:j<2:=ix_tt h1 rfl hj (by omega)
   match j,hj1 with
   |0,_=>
    refine aidxk (x:=.agg [.i .i64 ak,.i .i64 an,.s at_,.sl 5 (eVs al),eP cS ac]) rfl (by omega) ?_;(conv=>whnf);refine asplit ?_ ?_<;>intro g1<;>conv=>whnf
    ·rw[show isFC (.mk ak an at_ al ac)=true by unfold isFC;rw[Vl.kind,show(ak==7)=true from g1];rfl]at hF
     rw[Bool.true_or]at hF;cases hF;exact .inl rfl
    ·refine asplit ?_ ?_<;>intro g2<;>conv=>whnf
     ·rw[show isFC (.mk ak an at_ al ac)=true by unfold isFC;rw[Vl.kind,show(ak==8)=true from g2,Bool.or_true]]at hF
      rw[Bool.true_or]at hF;cases hF;exact .inl rfl
     ·have hn:isFC (.mk ak an at_ al ac)=false:=by unfold isFC;rw[Vl.kind,show(ak==7)=false from g1,show(ak==8)=false from g2];rfl
      exact⟨by decide,(),⟨rfl,rfl,rfl,rfl⟩,fun _=>hn,by omega⟩
   |1,_=>
    refine aidxk (x:=.agg [.i .i64 bk,.i .i64 bn,.s bt,.sl 5 (eVs bl),eP cS bc]) rfl (by omega) ?_;(conv=>whnf);refine asplit ?_ ?_<;>intro g1<;>conv=>whnf
    ·rw[show isFC (.mk bk bn bt bl bc)=true by unfold isFC;rw[Vl.kind,show(bk==7)=true from g1];rfl]at hF
     rw[Bool.or_true]at hF;cases hF;exact .inl rfl
    ·refine asplit ?_ ?_<;>intro g2<;>conv=>whnf
     ·rw[show isFC (.mk bk bn bt bl bc)=true by unfold isFC;rw[Vl.kind,show(bk==8)=true from g2,Bool.or_true]]at hF
      rw[Bool.or_true]at hF;cases hF;exact .inl rfl
     ·have hn:isFC (.mk bk bn bt bl bc)=false:=by unfold isFC;rw[Vl.kind,show(bk==7)=false from g1,show(bk==8)=false from g2];rfl
      exact⟨by decide,(),⟨rfl,rfl,rfl,rfl⟩,fun _=>q1 (by omega),fun _=>hn⟩
  ·have h1:j=2:=ix_ff h1 rfl hj (by omega)
   subst h1;rw[q1 (by omega),q2 (by omega)]at hF;clear q1 q2;rw[show(false||false)=false from rfl]at hF;dsimp only[Vl.kind,Vl.num,Vl.text,Vl.args]at hF;refine asplit ?_ ?_<;>intro g1<;>conv=>whnf
   ·rw[show(ak==bk)=false by simpa using g1]at hF
    cases hF;exact .inl rfl
   rw[show(ak==bk)=true by simpa using g1]at hF;dsimp only at hF;refine asplit ?_ ?_<;>intro g2<;>conv=>whnf
   ·rw[show(!(an==bn))=true from g2,Bool.true_or,Bool.true_or]at hF
    cases hF;exact .inl rfl
   rw[show(!(an==bn))=false from g2,Bool.false_or]at hF;refine asplit ?_ ?_<;>intro g3<;>conv=>whnf
   ·rw[show(!(at_.toList==bt.toList))=true from g3,Bool.true_or]at hF
    cases hF;exact .inl rfl
   rw[show(!(at_.toList==bt.toList))=false from g3,Bool.false_or]at hF;refine asplit ?_ ?_<;>intro g4<;>conv=>whnf
   ·rw[show(!(((eVs al).length:Int)==((eVs bl).length:Int)))=true from g4]at hF
    cases hF;exact .inl rfl
   rw[show(!(((eVs al).length:Int)==((eVs bl).length:Int)))=false from g4]at hF;dsimp only at hF
   cases hll:Nat.ble al.length 1000000 with
   |false=>rw[hll]at hF;cases hF
   |true=>
    rw[hll]at hF;dsimp only at hF;have hll:=Nat.le_of_ble_eq_true hll;refine loopS (tyOf_ok _) hmix (by kernel_rfl) al.length [2,3,58,59] [2,3] (fun j (_:Unit)=>[.ptr 2 0,.ptr 3 0,.p (.i .i64 (eVs al).length),.p (.i .i64 (ix j))]) (fun _ _=>[.cells (pCells [.i .i64 ak,.i .i64 an,.s at_,.sl 5 (eVs al),eP cS ac]),.cells (pCells [.i .i64 bk,.i .i64 bn,.s bt,.sl 5 (eVs bl),eP cS bc])]) (fun j _=>sameL (sameF n) (al.drop j) (bl.drop j)=some R) () ⟨rfl,rfl,rfl,rfl⟩ hF ?_;rintro j _ hj hQ;(conv=>whnf);refine asplit ?_ ?_<;>intro h1<;>conv=>whnf
    ·have hj1:=ix_tt h1 (by rw[hlen]) hj (by omega)
     obtain⟨u,hu⟩:∃u,al[j]?=some u:=⟨_,List.getElem?_eq_getElem hj1⟩
     rw[drop_cons hu]at hQ
     cases hv:bl[j]? with
     |none=>
      rw[List.drop_eq_nil_of_le (List.getElem?_eq_none_iff.1 hv)]at hQ;cases hQ
     |some x=>
      rw[drop_cons hv,sameL]at hQ
      cases hm:sameF n u x with
      |none=>rw[hm]at hQ;cases hQ
      |some q=>
       obtain⟨b1,w1⟩:=q;rw[hm]at hQ;have hi:=ih u x _ hm;obtain⟨uk,un,ut,ua,uc⟩:=u;obtain⟨xk,xn,xt,xa,xc⟩:=x;rw[eV,eV]at hi;refine aidxk (x:=.agg [.i .i64 uk,.i .i64 un,.s ut,.sl 5 (eVs ua),eP cS uc]) (by rw[eVs_map];simp[hu,eV]) (by omega) ?_;(conv=>whnf);refine aidxk (x:=.agg [.i .i64 xk,.i .i64 xn,.s xt,.sl 5 (eVs xa),eP cS xc]) (by rw[eVs_map];simp[hv,eV]) (by omega) ?_;(conv=>whnf);refine apc hi ?_;(conv=>whnf);refine aneed (.inl (by kernel_rfl)) ?_;(conv=>whnf)
       cases b1 with
       |false=>
        cases hQ;(conv=>whnf);exact .inl rfl
       |true=>
        (conv=>whnf);exact⟨hj1,(),⟨rfl,rfl,rfl,rfl⟩,hQ⟩
    ·have h1:=ix_ff h1 (by rw[hlen]) hj (by omega)
     subst h1;rw[List.drop_length]at hQ;cases hQ;exact .inl rfl
end MN
