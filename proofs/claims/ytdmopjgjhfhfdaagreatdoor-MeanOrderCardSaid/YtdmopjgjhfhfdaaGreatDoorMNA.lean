/- Contracts, and the law, for every input. No conditions. -/
import Derived.Test.YtdmopjgjhfhfdaaGreatDoorMN1
open Go Go.AM Go.Proofs TK
set_option maxRecDepth 100000
namespace MN
abbrev nS:Nat:=12
abbrev sS:Nat:=13
abbrev vS:Nat:=14
abbrev rS:Nat:=15
abbrev fS:Nat:=16
abbrev oS:Nat:=17
abbrev mS:Nat:=18
inductive FV where
 |nil
 |blk (k n:Nat)
 |lst (xs:List Vl)
def eFV:FV→PV
 |.nil=>.nsl
 |.blk k n=>.ads vS k n
 |.lst xs=>.sl 5 (eVs xs)
structure Fr where
 n:Option Nat
 sc:Option Nat
 vals:FV
 depth:Int
 inFun:Bool
def cFr (f:Fr):List PV:=[eP nS f.n,eP sS f.sc,eFV f.vals,.i .i64 f.depth,.b f.inFun]
inductive Ov where
 |mk (kind num:Int) (text:ByteArray) (args:List Ov)
mutual
def eO:Ov→PV
 |.mk k n t l=>.agg [.i .i64 k,.i .i64 n,.s t,.sl 4 (eOs l)]
def eOs:List Ov→List PV
 | []=>[]
 |v::r=>eO v::eOs r
end
structure Ou where
 kind:Int
 num:Int
 text:ByteArray
 vk:Int
 vn:Int
 vt:ByteArray
 va:List Ov
 args:List Ov
def cOu (o:Ou):List PV:=[.i .i64 o.kind,.i .i64 o.num,.s o.text,.i .i64 o.vk,.i .i64 o.vn,.s o.vt,.sl 4 (eOs o.va),.sl 4 (eOs o.args)]
def cV:Vl→List PV
 |.mk k n t l c=>[.i .i64 k,.i .i64 n,.s t,.sl 5 (eVs l),eP cS c]
def eSk:Option (Nat×Nat)→PV
 |none=>.nsl
 |some q=>.ads fS q.1 q.2
structure Rn where
 maker:Nat
 names:List ByteArray
 body:Option Nat
 self:Int
 state:List Vl
 mode:Int
 stack:Option (Nat×Nat)
 cur:Fr
 val:Vl
 last:Ou
 pause:Fr
 out:Option Nat
def eRn (r:Rn):List PV:=[.agg (.adr mS r.maker::.sl 1 (r.names.map .s)::eP nS r.body::.i .i64 r.self::.sl 5 (eVs r.state)::.i .i64 r.mode::eSk r.stack::(cFr r.cur++(cV r.val++(cOu r.last++(cFr r.pause++[eP oS r.out])))))]
def hRn (z:Sto Rn):AObj:=.store 142 true rS z.1 31 (enM eRn z.2)
theorem slk_sset {k:Nat} {xs ys:List PV}:∀{M:List (Nat×List PV)},slk k M=some xs→slk k (sset k ys M)=some ys
 | [],h=>by cases h
 |(a,zs)::r,h=>by
  rw[slk]at h;rw[sset]
  cases hb:Nat.beq a k with
  |true=>rw[slk,hb]
  |false=>rw[hb]at h;rw[slk,hb];exact slk_sset h
theorem sset_sset (k:Nat) (xs ys:List PV):∀(M:List (Nat×List PV)),sset k ys (sset k xs M)=sset k ys M
 | []=>rfl
 |(a,zs)::r=>by
  rw[sset,sset]
  cases hb:Nat.beq a k with
  |true=>rw[sset,hb]
  |false=>rw[sset,hb,sset_sset k xs ys r]
theorem give_spec (z:Sto Rn) (k:Nat) (v:Vl) (r:Rn) (hr:tlk k z.2=some r):
 AMem Tryz.prog 230 [.p (.adr rS k),.p (eV v)] [(1000000000,hRn z)] (.tup []) [(1000000000,hRn (z.1,tset k { r with cur:={ r.cur with n:=none },val:=v } z.2))]:=by
 obtain⟨vk,vn,vt,va,vc⟩:=v;obtain⟨r1,r2,r3,r4,r5,r6,r7,⟨c1,c2,c3,c4,c5⟩,⟨wk,wn,wt,wa,wc⟩,⟨o1,o2,o3,o4,o5,o6,o7,o8⟩,⟨p1,p2,p3,p4,p5⟩,r12⟩:=r;rw[eV];unfold hRn;refine AMem.intro (tyOf_ok Tryz.prog) hmix Tryz.func230 rfl (by rfl) (by kernel_rfl) (by show 2≤_;decide) rfl ?_;(conv=>whnf);refine aneed ⟨rfl,by decide,.inl rfl⟩ ?_;refine⟨_,slk_in hr,?_⟩;refine aidxn (i:=0) rfl ?_;(conv=>whnf);refine aneed ⟨rfl,by decide,.inl rfl⟩ ?_;refine⟨_,slk_sset (slk_in hr),?_⟩;refine aidxn (i:=0) rfl ?_;(conv=>whnf);refine aneed (.inl (by kernel_rfl)) ?_;(conv=>whnf);refine⟨.inl rfl,⟨⟨rfl,rfl,rfl,rfl,rfl,?_⟩,trivial⟩⟩;rw[sset_sset];exact sset_en eRn k ⟨r1,r2,r3,r4,r5,r6,r7,⟨none,c2,c3,c4,c5⟩,.mk vk vn vt va vc,⟨o1,o2,o3,o4,o5,o6,o7,o8⟩,⟨p1,p2,p3,p4,p5⟩,r12⟩ z.2
noncomputable def tyF:Nat→Option TI:=hintZ (tyOf Tryz.prog) 136 [1,1,0,1,1]
theorem tyF_ok:TyOK Tryz.prog tyF:=(tyOf_ok Tryz.prog).hintZ _ _
theorem eval_spec (z:Sto Rn) (k n:Nat) (f:Fr) (s:Option Nat) (r:Rn) (hr:tlk k z.2=some r):
 AMem Tryz.prog 231 [.p (.adr rS k),.p (.adr nS n),.p (.agg (cFr f)),.p (eP sS s)] [(1000000000,hRn z)] (.tup []) [(1000000000,hRn (z.1,tset k { r with cur:=⟨some n,s,.nil,f.depth,f.inFun⟩ } z.2))]:=by
 obtain⟨f1,f2,f3,f4,f5⟩:=f;obtain⟨r1,r2,r3,r4,r5,r6,r7,⟨c1,c2,c3,c4,c5⟩,⟨wk,wn,wt,wa,wc⟩,⟨o1,o2,o3,o4,o5,o6,o7,o8⟩,⟨p1,p2,p3,p4,p5⟩,r12⟩:=r;unfold hRn cFr;dsimp only
 cases s with
 |none=>
  refine AMem.intro tyF_ok hmix Tryz.func231 rfl (by rfl) (by kernel_rfl) (by show 4≤_;decide) rfl ?_;(conv=>whnf);refine aneed ⟨rfl,by decide,.inl rfl⟩ ?_;refine⟨_,slk_in hr,?_⟩;refine aidxn (i:=0) rfl ?_;(conv=>whnf);refine⟨.inl rfl,⟨⟨rfl,rfl,rfl,rfl,rfl,?_⟩,trivial⟩⟩;exact sset_en eRn k ⟨r1,r2,r3,r4,r5,r6,r7,⟨some n,none,.nil,f4,f5⟩,.mk wk wn wt wa wc,⟨o1,o2,o3,o4,o5,o6,o7,o8⟩,⟨p1,p2,p3,p4,p5⟩,r12⟩ z.2
 |some s=>
  refine AMem.intro tyF_ok hmix Tryz.func231 rfl (by rfl) (by kernel_rfl) (by show 4≤_;decide) rfl ?_;(conv=>whnf);refine aneed ⟨rfl,by decide,.inl rfl⟩ ?_;refine⟨_,slk_in hr,?_⟩;refine aidxn (i:=0) rfl ?_;(conv=>whnf);refine⟨.inl rfl,⟨⟨rfl,rfl,rfl,rfl,rfl,?_⟩,trivial⟩⟩;exact sset_en eRn k ⟨r1,r2,r3,r4,r5,r6,r7,⟨some n,(some s),.nil,f4,f5⟩,.mk wk wn wt wa wc,⟨o1,o2,o3,o4,o5,o6,o7,o8⟩,⟨p1,p2,p3,p4,p5⟩,r12⟩ z.2
end MN
open Go Go.AM Go.Proofs TK
set_option maxRecDepth 100000
namespace MN
def eOu (o:Ou):List PV:=[.agg (cOu o)]
def hOu (z:Sto Ou):AObj:=.store 41 true oS z.1 8 (enM eOu z.2)
theorem slk_head (a:Nat) (xs:List PV) (M:List (Nat×List PV)):slk a ((a,xs)::M)=some xs:=by rw[slk,Nat.beq_refl]
noncomputable def tyS:Nat→Option TI:=hint (hintZ (tyOf Tryz.prog) 133 [0]) 41 [1000003]
theorem tyS_ok:TyOK Tryz.prog tyS:=((tyOf_ok Tryz.prog).hintZ _ _).hint _ _
def stopR (r:Rn) (o:Ou) (a:Nat):Rn:={ r with mode:=3,last:=o,out:=some a,stack:=none }
theorem stop_spec (z:Sto Rn) (zo:Sto Ou) (k:Nat) (o:Ou) (r:Rn) (hr:tlk k z.2=some r):
 AMem Tryz.prog 238 [.p (.adr rS k),.p (.agg (cOu o))] [(1000000000,hRn z),(1000000001,hOu zo)] (.tup []) [(1000000000,hRn (z.1,tset k (stopR r o zo.1) z.2)),(1000000001,hOu (zo.1+1,(zo.1,o)::zo.2))]:=by
 obtain⟨r1,r2,r3,r4,r5,r6,r7,⟨c1,c2,c3,c4,c5⟩,⟨wk,wn,wt,wa,wc⟩,⟨o1,o2,o3,o4,o5,o6,o7,o8⟩,⟨p1,p2,p3,p4,p5⟩,r12⟩:=r;obtain⟨q1,q2,q3,q4,q5,q6,q7,q8⟩:=o;unfold hRn hOu stopR cOu;dsimp only;refine AMem.intro tyS_ok hmix Tryz.func238 rfl (by rfl) (by kernel_rfl) (by show 2≤_;decide) rfl ?_;(conv=>whnf);refine aneed ⟨rfl,by decide,.inl rfl⟩ ?_;refine⟨_,slk_head _ _ _,?_⟩;refine aidxn (i:=0) rfl ?_;(conv=>whnf);refine aneed ⟨rfl,by decide,.inl rfl⟩ ?_;refine⟨_,slk_in hr,?_⟩;refine aidxn (i:=0) rfl ?_;(conv=>whnf);refine aneed ⟨rfl,by decide,.inl rfl⟩ ?_;refine⟨_,slk_sset (slk_in hr),?_⟩;refine aidxn (i:=0) rfl ?_;(conv=>whnf);refine aneed ⟨rfl,by decide,.inl rfl⟩ ?_;refine⟨_,slk_sset (slk_sset (slk_in hr)),?_⟩;refine aidxn (i:=0) rfl ?_;(conv=>whnf);refine aneed ⟨rfl,by decide,.inl rfl⟩ ?_;refine⟨_,slk_sset (slk_sset (slk_sset (slk_in hr))),?_⟩;refine aidxn (i:=0) rfl ?_;(conv=>whnf);refine⟨.inl rfl,⟨⟨rfl,rfl,rfl,rfl,rfl,?_⟩,s6,trivial⟩⟩;rw[sset_sset,sset_sset,sset_sset];exact sset_en eRn k ⟨r1,r2,r3,r4,r5,3,none,⟨c1,c2,c3,c4,c5⟩,.mk wk wn wt wa wc,⟨q1,q2,q3,q4,q5,q6,q7,q8⟩,⟨p1,p2,p3,p4,p5⟩,some zo.1⟩ z.2
def failO (why:ByteArray):Ou:=⟨9,0,why,0,0,⟨#[]⟩,[],[]⟩
theorem fail_spec (z:Sto Rn) (zo:Sto Ou) (k:Nat) (why:ByteArray) (r:Rn) (hr:tlk k z.2=some r):
 AMem Tryz.prog 242 [.p (.adr rS k),.p (.s why)] [(1000000000,hRn z),(1000000001,hOu zo)] (.tup []) [(1000000000,hRn (z.1,tset k (stopR r (failO why) zo.1) z.2)),(1000000001,hOu (zo.1+1,(zo.1,failO why)::zo.2))]:=by
 have hs:=stop_spec z zo k (failO why) r hr;unfold hRn hOu at *;refine AMem.intro (tyOf_ok Tryz.prog) hmix Tryz.func242 rfl (by rfl) (by kernel_rfl) (by show 2≤_;decide) rfl ?_;(conv=>whnf);refine amc [1000000000,1000000001] 300 hs ?_;(conv=>whnf);exact⟨.inl rfl,⟨s6,s6,trivial⟩⟩
end MN
open Go Go.AM Go.Proofs TK
set_option maxRecDepth 100000
namespace MN
noncomputable def tyO:Nat→Option TI:=hint (tyOf Tryz.prog) 41 [1000003]
theorem tyO_ok:TyOK Tryz.prog tyO:=(tyOf_ok Tryz.prog).hint _ _
def tellR (r:Rn) (a:Nat):Rn:={ r with out:=some a,cur:={ r.cur with n:=none },val:=vI 1 0 }
theorem tlk_tset {α:Type} {k:Nat} {x y:α}:∀{M:List (Nat×α)},tlk k M=some x→tlk k (tset k y M)=some y
 | [],h=>by cases h
 |(a,z)::r,h=>by
  rw[tlk]at h;rw[tset]
  cases hb:Nat.beq a k with
  |true=>rw[tlk,hb]
  |false=>rw[hb]at h;rw[tlk,hb];exact tlk_tset h
theorem tset_tset {α:Type} (k:Nat) (x y:α):∀(M:List (Nat×α)),tset k y (tset k x M)=tset k y M
 | []=>rfl
 |(a,z)::r=>by
  rw[tset,tset]
  cases hb:Nat.beq a k with
  |true=>rw[tset,hb]
  |false=>rw[tset,hb,tset_tset k x y r]
theorem tell_spec (z:Sto Rn) (zo:Sto Ou) (k:Nat) (o:Ou) (r:Rn) (hr:tlk k z.2=some r):
 AMem Tryz.prog 259 [.p (.adr rS k),.p (.agg (cOu o))] [(1000000000,hRn z),(1000000001,hOu zo)] (.tup []) [(1000000000,hRn (z.1,tset k (tellR r zo.1) z.2)),(1000000001,hOu (zo.1+1,(zo.1,o)::zo.2))]:=by
 have hg:=give_spec (z.1,tset k { r with out:=some zo.1 } z.2) k (vI 1 0) { r with out:=some zo.1 } (tlk_tset hr);rw[tset_tset]at hg;have hen:∀M,sset k (eRn { r with out:=some zo.1 }) (enM eRn M)=enM eRn (tset k { r with out:=some zo.1 } M):=fun M=>sset_en eRn k _ M;obtain⟨r1,r2,r3,r4,r5,r6,r7,⟨c1,c2,c3,c4,c5⟩,⟨wk,wn,wt,wa,wc⟩,⟨o1,o2,o3,o4,o5,o6,o7,o8⟩,⟨p1,p2,p3,p4,p5⟩,r12⟩:=r;obtain⟨q1,q2,q3,q4,q5,q6,q7,q8⟩:=o;unfold hRn hOu cOu tellR at *;dsimp only at *;refine AMem.intro tyO_ok hmix Tryz.func259 rfl (by rfl) (by kernel_rfl) (by show 2≤_;decide) rfl ?_;(conv=>whnf);refine aneed ⟨rfl,by decide,.inl rfl⟩ ?_;refine⟨_,slk_in hr,?_⟩;refine aidxn (i:=0) rfl ?_;(conv=>whnf);refine apc unit_spec ?_;(conv=>whnf);rw[←hen]at hg;refine amc [1000000000] 300 hg ?_;(conv=>whnf);exact⟨.inl rfl,⟨s6,s6,trivial⟩⟩
end MN
open Go Go.AM Go.Proofs TK
set_option maxRecDepth 100000
namespace MN
noncomputable def tyB:Nat→Option TI:=hintZ (hintZ (tyOf Tryz.prog) 133 [0]) 136 [1,1,0,1,1]
theorem tyB_ok:TyOK Tryz.prog tyB:=((tyOf_ok Tryz.prog).hintZ _ _).hintZ _ _
def beginR (r:Rn) (l:List Vl) (s:Option Nat):Rn:={ r with state:=l,stack:=none,mode:=0,cur:=⟨r.body,s,.nil,0,false⟩ }
theorem begin_spec (z:Sto Rn) (zs:Sto Sc) (k:Nat) (l:List Vl) (r:Rn) (R:Sto Sc×Option Nat) (hr:tlk k z.2=some r) (hn:r.names.length≤1000000) (hF:withF r.names l (zs,none)=some R):
 AMem Tryz.prog 40 [.p (.adr rS k),.p (.sl 5 (eVs l))] [(1000000000,hRn z),(1000000001,hSc sS zs)] (.tup []) [(1000000000,hRn (z.1,tset k (beginR r l R.2) z.2)),(1000000001,hSc sS R.1)]:=by
 have hw:=with_spec sS r.names l (zs,none) R (by omega) hF;obtain⟨r1,r2,r3,r4,r5,r6,r7,⟨c1,c2,c3,c4,c5⟩,⟨wk,wn,wt,wa,wc⟩,⟨o1,o2,o3,o4,o5,o6,o7,o8⟩,⟨p1,p2,p3,p4,p5⟩,r12⟩:=r;obtain⟨R1,R2⟩:=R;unfold hRn hSc beginR at *;dsimp only at *
 cases r3 with
 |none=>
  cases R2 with
  |none=>
   refine AMem.intro tyB_ok hmix Tryz.func40 rfl (by rfl) (by kernel_rfl) (by show 2≤_;decide) rfl ?_;(conv=>whnf);refine aneed ⟨rfl,by decide,.inl rfl⟩ ?_;refine⟨_,slk_in hr,?_⟩;refine aidxn (i:=0) rfl ?_;(conv=>whnf);refine aneed ⟨rfl,by decide,.inl rfl⟩ ?_;refine⟨_,slk_sset (slk_in hr),?_⟩;refine aidxn (i:=0) rfl ?_;(conv=>whnf);refine aneed ⟨rfl,by decide,.inl rfl⟩ ?_;refine⟨_,slk_sset (slk_sset (slk_in hr)),?_⟩;refine aidxn (i:=0) rfl ?_;(conv=>whnf);refine aneed ⟨rfl,by decide,.inl rfl⟩ ?_;refine⟨_,slk_sset (slk_sset (slk_sset (slk_in hr))),?_⟩;refine aidxn (i:=0) rfl ?_;(conv=>whnf);refine aneed ⟨rfl,by decide,.inl rfl⟩ ?_;refine⟨_,slk_sset (slk_sset (slk_sset (slk_in hr))),?_⟩;refine aidxn (i:=0) rfl ?_;(conv=>whnf);refine amc [1000000001] 300 hw ?_;(conv=>whnf);refine aneed ⟨rfl,by decide,.inl rfl⟩ ?_;refine⟨_,slk_sset (slk_sset (slk_sset (slk_in hr))),?_⟩;refine aidxn (i:=0) rfl ?_;(conv=>whnf);refine aneed (.inl (by kernel_rfl)) ?_;(conv=>whnf);refine⟨.inl rfl,⟨⟨rfl,rfl,rfl,rfl,rfl,?_⟩,s6,trivial⟩⟩;rw[sset_sset,sset_sset,sset_sset];exact sset_en eRn k ⟨r1,r2,none,r4,l,0,none,⟨none,none,.nil,0,false⟩,.mk wk wn wt wa wc,⟨o1,o2,o3,o4,o5,o6,o7,o8⟩,⟨p1,p2,p3,p4,p5⟩,r12⟩ z.2
  |some s=>
   refine AMem.intro tyB_ok hmix Tryz.func40 rfl (by rfl) (by kernel_rfl) (by show 2≤_;decide) rfl ?_;(conv=>whnf);refine aneed ⟨rfl,by decide,.inl rfl⟩ ?_;refine⟨_,slk_in hr,?_⟩;refine aidxn (i:=0) rfl ?_;(conv=>whnf);refine aneed ⟨rfl,by decide,.inl rfl⟩ ?_;refine⟨_,slk_sset (slk_in hr),?_⟩;refine aidxn (i:=0) rfl ?_;(conv=>whnf);refine aneed ⟨rfl,by decide,.inl rfl⟩ ?_;refine⟨_,slk_sset (slk_sset (slk_in hr)),?_⟩;refine aidxn (i:=0) rfl ?_;(conv=>whnf);refine aneed ⟨rfl,by decide,.inl rfl⟩ ?_;refine⟨_,slk_sset (slk_sset (slk_sset (slk_in hr))),?_⟩;refine aidxn (i:=0) rfl ?_;(conv=>whnf);refine aneed ⟨rfl,by decide,.inl rfl⟩ ?_;refine⟨_,slk_sset (slk_sset (slk_sset (slk_in hr))),?_⟩;refine aidxn (i:=0) rfl ?_;(conv=>whnf);refine amc [1000000001] 300 hw ?_;(conv=>whnf);refine aneed ⟨rfl,by decide,.inl rfl⟩ ?_;refine⟨_,slk_sset (slk_sset (slk_sset (slk_in hr))),?_⟩;refine aidxn (i:=0) rfl ?_;(conv=>whnf);refine aneed (.inl (by kernel_rfl)) ?_;(conv=>whnf);refine⟨.inl rfl,⟨⟨rfl,rfl,rfl,rfl,rfl,?_⟩,s6,trivial⟩⟩;rw[sset_sset,sset_sset,sset_sset];exact sset_en eRn k ⟨r1,r2,none,r4,l,0,none,⟨none,(some s),.nil,0,false⟩,.mk wk wn wt wa wc,⟨o1,o2,o3,o4,o5,o6,o7,o8⟩,⟨p1,p2,p3,p4,p5⟩,r12⟩ z.2
 |some b=>
  cases R2 with
  |none=>
   refine AMem.intro tyB_ok hmix Tryz.func40 rfl (by rfl) (by kernel_rfl) (by show 2≤_;decide) rfl ?_;(conv=>whnf);refine aneed ⟨rfl,by decide,.inl rfl⟩ ?_;refine⟨_,slk_in hr,?_⟩;refine aidxn (i:=0) rfl ?_;(conv=>whnf);refine aneed ⟨rfl,by decide,.inl rfl⟩ ?_;refine⟨_,slk_sset (slk_in hr),?_⟩;refine aidxn (i:=0) rfl ?_;(conv=>whnf);refine aneed ⟨rfl,by decide,.inl rfl⟩ ?_;refine⟨_,slk_sset (slk_sset (slk_in hr)),?_⟩;refine aidxn (i:=0) rfl ?_;(conv=>whnf);refine aneed ⟨rfl,by decide,.inl rfl⟩ ?_;refine⟨_,slk_sset (slk_sset (slk_sset (slk_in hr))),?_⟩;refine aidxn (i:=0) rfl ?_;(conv=>whnf);refine aneed ⟨rfl,by decide,.inl rfl⟩ ?_;refine⟨_,slk_sset (slk_sset (slk_sset (slk_in hr))),?_⟩;refine aidxn (i:=0) rfl ?_;(conv=>whnf);refine amc [1000000001] 300 hw ?_;(conv=>whnf);refine aneed ⟨rfl,by decide,.inl rfl⟩ ?_;refine⟨_,slk_sset (slk_sset (slk_sset (slk_in hr))),?_⟩;refine aidxn (i:=0) rfl ?_;(conv=>whnf);refine aneed (.inl (by kernel_rfl)) ?_;(conv=>whnf);refine⟨.inl rfl,⟨⟨rfl,rfl,rfl,rfl,rfl,?_⟩,s6,trivial⟩⟩;rw[sset_sset,sset_sset,sset_sset];exact sset_en eRn k ⟨r1,r2,(some b),r4,l,0,none,⟨(some b),none,.nil,0,false⟩,.mk wk wn wt wa wc,⟨o1,o2,o3,o4,o5,o6,o7,o8⟩,⟨p1,p2,p3,p4,p5⟩,r12⟩ z.2
  |some s=>
   refine AMem.intro tyB_ok hmix Tryz.func40 rfl (by rfl) (by kernel_rfl) (by show 2≤_;decide) rfl ?_;(conv=>whnf);refine aneed ⟨rfl,by decide,.inl rfl⟩ ?_;refine⟨_,slk_in hr,?_⟩;refine aidxn (i:=0) rfl ?_;(conv=>whnf);refine aneed ⟨rfl,by decide,.inl rfl⟩ ?_;refine⟨_,slk_sset (slk_in hr),?_⟩;refine aidxn (i:=0) rfl ?_;(conv=>whnf);refine aneed ⟨rfl,by decide,.inl rfl⟩ ?_;refine⟨_,slk_sset (slk_sset (slk_in hr)),?_⟩;refine aidxn (i:=0) rfl ?_;(conv=>whnf);refine aneed ⟨rfl,by decide,.inl rfl⟩ ?_;refine⟨_,slk_sset (slk_sset (slk_sset (slk_in hr))),?_⟩;refine aidxn (i:=0) rfl ?_;(conv=>whnf);refine aneed ⟨rfl,by decide,.inl rfl⟩ ?_;refine⟨_,slk_sset (slk_sset (slk_sset (slk_in hr))),?_⟩;refine aidxn (i:=0) rfl ?_;(conv=>whnf);refine amc [1000000001] 300 hw ?_;(conv=>whnf);refine aneed ⟨rfl,by decide,.inl rfl⟩ ?_;refine⟨_,slk_sset (slk_sset (slk_sset (slk_in hr))),?_⟩;refine aidxn (i:=0) rfl ?_;(conv=>whnf);refine aneed (.inl (by kernel_rfl)) ?_;(conv=>whnf);refine⟨.inl rfl,⟨⟨rfl,rfl,rfl,rfl,rfl,?_⟩,s6,trivial⟩⟩;rw[sset_sset,sset_sset,sset_sset];exact sset_en eRn k ⟨r1,r2,(some b),r4,l,0,none,⟨(some b),(some s),.nil,0,false⟩,.mk wk wn wt wa wc,⟨o1,o2,o3,o4,o5,o6,o7,o8⟩,⟨p1,p2,p3,p4,p5⟩,r12⟩ z.2
end MN
open Go Go.AM Go.Proofs TK
set_option maxRecDepth 100000
namespace MN
abbrev aS:Nat:=19
abbrev bS:Nat:=20
def eBk (sp:Nat):Option (Nat×Nat)→PV
 |none=>.nsl
 |some q=>.ads sp q.1 q.2
def lBk:Option (Nat×Nat)→Nat
 |none=>0
 |some q=>q.2
structure Nd where
 kind:Int
 num:Int
 text:ByteArray
 names:List ByteArray
 args:Option (Nat×Nat)
 arms:Option (Nat×Nat)
 needs:Int
 fn:Int
 free:List ByteArray
def eNd (n:Nd):List PV:=[.agg [.i .i64 n.kind,.i .i64 n.num,.s n.text,.sl 1 (n.names.map .s),eBk aS n.args,eBk bS n.arms,.i .i64 n.needs,.i .i64 n.fn,.sl 1 (n.free.map .s)]]
def hNd (z:Sto Nd):AObj:=.store 160 true nS z.1 9 (enM eNd z.2)
def wAnd:ByteArray:=⟨#[97,110,100]⟩
def wOr:ByteArray:=⟨#[111,114]⟩
def lazyF (n:Nd):Bool:=((n.kind==8)&&((n.text.toList==wAnd.toList)||(n.text.toList==wOr.toList)))&&((lBk n.args:Int)==2)
theorem lazy_spec (z:Sto Nd) (k:Nat) (n:Nd) (hn:tlk k z.2=some n):
 AMem Tryz.prog 252 [.p (.adr nS k)] [(1000000000,hNd z)] (.p (.b (lazyF n))) [(1000000000,hNd z)]:=by
 obtain⟨n1,n2,n3,n4,n5,n6,n7,n8,n9⟩:=n;unfold hNd lazyF;dsimp only;refine AMem.intro (tyOf_ok Tryz.prog) hmix Tryz.func252 rfl (by rfl) (by kernel_rfl) (by show 1≤_;decide) rfl ?_;(conv=>whnf);refine aneed ⟨rfl,by decide,.inl rfl⟩ ?_;refine⟨_,slk_in hn,?_⟩;refine aidxn (i:=0) rfl ?_;(conv=>whnf);refine asplit ?_ ?_<;>intro h1<;>conv=>whnf
 ·rw[show(n1==8)=true from h1,Bool.true_and]
  refine aneed ⟨rfl,by decide,.inl rfl⟩ ?_;refine⟨_,slk_in hn,?_⟩;refine aidxn (i:=0) rfl ?_;(conv=>whnf);refine asplit ?_ ?_<;>intro h2<;>conv=>whnf
  ·rw[show(n3.toList==wAnd.toList)=true from h2,Bool.true_or,Bool.true_and]
   cases n5 with
   |none=>
    refine aneed ⟨rfl,by decide,.inl rfl⟩ ?_;refine⟨_,slk_in hn,?_⟩;refine aidxn (i:=0) rfl ?_;(conv=>whnf);exact⟨.inl rfl,⟨s6,trivial⟩⟩
   |some q=>
    refine aneed ⟨rfl,by decide,.inl rfl⟩ ?_;refine⟨_,slk_in hn,?_⟩;refine aidxn (i:=0) rfl ?_;(conv=>whnf);exact⟨.inl rfl,⟨s6,trivial⟩⟩
  ·rw[show(n3.toList==wAnd.toList)=false from h2,Bool.false_or]
   refine aneed ⟨rfl,by decide,.inl rfl⟩ ?_;refine⟨_,slk_in hn,?_⟩;refine aidxn (i:=0) rfl ?_;(conv=>whnf);refine asplit ?_ ?_<;>intro h3<;>conv=>whnf
   ·rw[show(n3.toList==wOr.toList)=true from h3,Bool.true_and]
    cases n5 with
    |none=>
     refine aneed ⟨rfl,by decide,.inl rfl⟩ ?_;refine⟨_,slk_in hn,?_⟩;refine aidxn (i:=0) rfl ?_;(conv=>whnf);exact⟨.inl rfl,⟨s6,trivial⟩⟩
    |some q=>
     refine aneed ⟨rfl,by decide,.inl rfl⟩ ?_;refine⟨_,slk_in hn,?_⟩;refine aidxn (i:=0) rfl ?_;(conv=>whnf);exact⟨.inl rfl,⟨s6,trivial⟩⟩
   ·rw[show(n3.toList==wOr.toList)=false from h3,Bool.false_and]
    exact⟨.inl rfl,⟨s6,trivial⟩⟩
 ·rw[show(n1==8)=false from h1,Bool.false_and,Bool.false_and]
  exact⟨.inl rfl,⟨s6,trivial⟩⟩
end MN
open Go Go.AM Go.Proofs TK
set_option maxRecDepth 100000
namespace MN
def eagerF (n:Nd):Int:=match decide ((lBk n.args:Int)<n.needs) with
 |true=>(lBk n.args:Int)
 |false=>match ((n.kind==7)||(n.kind==6))||lazyF n with
  |true=>1
  |false=>n.needs
theorem eager_spec (z:Sto Nd) (k:Nat) (n:Nd) (hn:tlk k z.2=some n):
 AMem Tryz.prog 224 [.p (.adr nS k)] [(1000000000,hNd z)] (.p (.i .i64 (eagerF n))) [(1000000000,hNd z)]:=by
 have hz:=lazy_spec z k n hn;generalize hL:lazyF n=L at hz;obtain⟨n1,n2,n3,n4,n5,n6,n7,n8,n9⟩:=n;unfold hNd at *;unfold eagerF;rw[hL];clear hL;dsimp only
 cases n5 with
 |none=>
  refine AMem.intro (tyOf_ok Tryz.prog) hmix Tryz.func224 rfl (by rfl) (by kernel_rfl) (by show 1≤_;decide) rfl ?_;(conv=>whnf);refine aneed ⟨rfl,by decide,.inl rfl⟩ ?_;refine⟨_,slk_in hn,?_⟩;refine aidxn (i:=0) rfl ?_;(conv=>whnf);refine aneed ⟨rfl,by decide,.inl rfl⟩ ?_;refine⟨_,slk_in hn,?_⟩;refine aidxn (i:=0) rfl ?_;(conv=>whnf);refine aneed (.inl (by kernel_rfl)) ?_;(conv=>whnf);refine asplit ?_ ?_<;>intro h1<;>conv=>whnf
  ·rw[show decide ((lBk none:Int)<n7)=true from h1]
   refine aneed ⟨rfl,by decide,.inl rfl⟩ ?_;refine⟨_,slk_in hn,?_⟩;refine aidxn (i:=0) rfl ?_;(conv=>whnf);exact⟨.inl rfl,⟨s6,trivial⟩⟩
  rw[show decide ((lBk none:Int)<n7)=false from h1];refine aneed ⟨rfl,by decide,.inl rfl⟩ ?_;refine⟨_,slk_in hn,?_⟩;refine aidxn (i:=0) rfl ?_;(conv=>whnf);refine asplit ?_ ?_<;>intro h2<;>conv=>whnf
  ·rw[show(n1==7)=true from h2,Bool.true_or,Bool.true_or]
   exact⟨.inl rfl,⟨s6,trivial⟩⟩
  rw[show(n1==7)=false from h2,Bool.false_or];refine aneed ⟨rfl,by decide,.inl rfl⟩ ?_;refine⟨_,slk_in hn,?_⟩;refine aidxn (i:=0) rfl ?_;(conv=>whnf);refine asplit ?_ ?_<;>intro h3<;>conv=>whnf
  ·rw[show(n1==6)=true from h3,Bool.true_or]
   exact⟨.inl rfl,⟨s6,trivial⟩⟩
  rw[show(n1==6)=false from h3,Bool.false_or];refine amc [1000000000] 300 hz ?_;(conv=>whnf)
  cases L with
  |true=>
   (conv=>whnf);exact⟨.inl rfl,⟨s6,trivial⟩⟩
  |false=>
   (conv=>whnf);refine aneed ⟨rfl,by decide,.inl rfl⟩ ?_;refine⟨_,slk_in hn,?_⟩;refine aidxn (i:=0) rfl ?_;(conv=>whnf);exact⟨.inl rfl,⟨s6,trivial⟩⟩
 |some q=>
  refine AMem.intro (tyOf_ok Tryz.prog) hmix Tryz.func224 rfl (by rfl) (by kernel_rfl) (by show 1≤_;decide) rfl ?_;(conv=>whnf);refine aneed ⟨rfl,by decide,.inl rfl⟩ ?_;refine⟨_,slk_in hn,?_⟩;refine aidxn (i:=0) rfl ?_;(conv=>whnf);refine aneed ⟨rfl,by decide,.inl rfl⟩ ?_;refine⟨_,slk_in hn,?_⟩;refine aidxn (i:=0) rfl ?_;(conv=>whnf);refine aneed (.inl (by kernel_rfl)) ?_;(conv=>whnf);refine asplit ?_ ?_<;>intro h1<;>conv=>whnf
  ·rw[show decide ((lBk (some q):Int)<n7)=true from h1]
   refine aneed ⟨rfl,by decide,.inl rfl⟩ ?_;refine⟨_,slk_in hn,?_⟩;refine aidxn (i:=0) rfl ?_;(conv=>whnf);exact⟨.inl rfl,⟨s6,trivial⟩⟩
  rw[show decide ((lBk (some q):Int)<n7)=false from h1];refine aneed ⟨rfl,by decide,.inl rfl⟩ ?_;refine⟨_,slk_in hn,?_⟩;refine aidxn (i:=0) rfl ?_;(conv=>whnf);refine asplit ?_ ?_<;>intro h2<;>conv=>whnf
  ·rw[show(n1==7)=true from h2,Bool.true_or,Bool.true_or]
   exact⟨.inl rfl,⟨s6,trivial⟩⟩
  rw[show(n1==7)=false from h2,Bool.false_or];refine aneed ⟨rfl,by decide,.inl rfl⟩ ?_;refine⟨_,slk_in hn,?_⟩;refine aidxn (i:=0) rfl ?_;(conv=>whnf);refine asplit ?_ ?_<;>intro h3<;>conv=>whnf
  ·rw[show(n1==6)=true from h3,Bool.true_or]
   exact⟨.inl rfl,⟨s6,trivial⟩⟩
  rw[show(n1==6)=false from h3,Bool.false_or];refine amc [1000000000] 300 hz ?_;(conv=>whnf)
  cases L with
  |true=>
   (conv=>whnf);exact⟨.inl rfl,⟨s6,trivial⟩⟩
  |false=>
   (conv=>whnf);refine aneed ⟨rfl,by decide,.inl rfl⟩ ?_;refine⟨_,slk_in hn,?_⟩;refine aidxn (i:=0) rfl ?_;(conv=>whnf);exact⟨.inl rfl,⟨s6,trivial⟩⟩
end MN
open Go Go.AM Go.Proofs TK
set_option maxRecDepth 100000
namespace MN
def eKs (l:List Nat):List PV:=l.map (.adr nS)
def hAr (z:Sto (List Nat)):AObj:=.store 110 false aS z.1 1 (enM eKs z.2)
def argF (za:Sto (List Nat)) (n:Nd) (j:Nat):Option Nat:=match n.args with
 |none=>none
 |some q=>match Nat.blt j q.2 with
  |false=>none
  |true=>match tlk q.1 za.2 with
   |none=>none
   |some l=>l[j]?
def evalR (r:Rn) (j:Nat) (f:Fr) (s:Option Nat):Rn:={ r with cur:=⟨some j,s,.nil,f.depth,f.inFun⟩ }
end MN
open Go Go.AM Go.Proofs TK
set_option maxRecDepth 100000
namespace MN
theorem sset_head (a:Nat) (xs ys:List PV) (M:List (Nat×List PV)):sset a ys ((a,xs)::M)=(a,ys)::M:=by rw[sset,Nat.beq_refl]
noncomputable def tyV:Nat→Option TI:=hint (tyOf Tryz.prog) 41 [1000004]
theorem tyV_ok:TyOK Tryz.prog tyV:=(tyOf_ok Tryz.prog).hint _ _
def waitO (n:Nd):Ou:=⟨7,if n.num < -1 then -1 else n.num,⟨#[]⟩,0,0,⟨#[]⟩,[],[]⟩
def waitR (r:Rn) (f:Fr) (o:Ou) (a:Nat):Rn:={ r with mode:=1,pause:=f,last:=o,out:=some a }
theorem wait_spec (zr:Sto Rn) (zo:Sto Ou) (zn:Sto Nd) (k:Nat) (f:Fr) (r:Rn) (n:Nd) (kn:Nat) (hr:tlk k zr.2=some r) (hfn:f.n=some kn) (hn:tlk kn zn.2=some n):
 AMem Tryz.prog 244 [.p (.adr rS k),.p (.agg (cFr f))] [(1000000000,hRn zr),(1000000001,hOu zo),(1000000002,hNd zn)] (.tup [])
  [(1000000000,hRn (zr.1,tset k (waitR r f (waitO n) zo.1) zr.2)),(1000000001,hOu (zo.1+1,(zo.1,waitO n)::zo.2)),(1000000002,hNd zn)]:=by
 obtain⟨f1,f2,f3,f4,f5⟩:=f;obtain⟨n1,n2,n3,n4,n5,n6,n7,n8,n9⟩:=n;obtain⟨r1,r2,r3,r4,r5,r6,r7,⟨c1,c2,c3,c4,c5⟩,⟨wk,wn,wt,wa,wc⟩,⟨o1,o2,o3,o4,o5,o6,o7,o8⟩,⟨p1,p2,p3,p4,p5⟩,r12⟩:=r;dsimp only at hfn;subst hfn;unfold hRn hOu hNd cFr waitR waitO at *;dsimp only at *;refine AMem.intro tyV_ok hmix Tryz.func244 rfl (by rfl) (by kernel_rfl) (by show 2≤_;decide) rfl ?_;(conv=>whnf);refine aneed ⟨rfl,by decide,.inl rfl⟩ ?_;refine⟨_,slk_in hn,?_⟩;refine aidxn (i:=0) rfl ?_;(conv=>whnf);refine aneed ⟨rfl,by decide,.inl rfl⟩ ?_;refine⟨_,slk_head _ _ _,?_⟩;refine aidxn (i:=0) rfl ?_;(conv=>whnf);refine aneed ⟨rfl,by decide,.inl rfl⟩ ?_;refine⟨_,slk_sset (slk_head _ _ _),?_⟩;refine aidxn (i:=0) rfl ?_;(conv=>whnf);refine aneed ⟨rfl,by decide,.inl rfl⟩ ?_;refine⟨_,slk_in hr,?_⟩;refine aidxn (i:=0) rfl ?_;(conv=>whnf);refine aneed ⟨rfl,by decide,.inl rfl⟩ ?_;refine⟨_,slk_sset (slk_in hr),?_⟩;refine aidxn (i:=0) rfl ?_;(conv=>whnf);refine aneed ⟨rfl,by decide,.inl rfl⟩ ?_;refine⟨_,slk_sset (slk_sset (slk_in hr)),?_⟩;refine aidxn (i:=0) rfl ?_;(conv=>whnf);refine aneed ⟨rfl,by decide,.inl rfl⟩ ?_;refine⟨_,slk_sset (slk_sset (slk_sset (slk_in hr))),?_⟩;refine aidxn (i:=0) rfl ?_;(conv=>whnf);refine aneed (.inl (by kernel_rfl)) ?_;(conv=>whnf);refine⟨.inl rfl,⟨⟨rfl,rfl,rfl,rfl,rfl,?_⟩,⟨rfl,rfl,rfl,rfl,rfl,?_⟩,s6,trivial⟩⟩
 ·rw[sset_sset,sset_sset,sset_sset]
  exact sset_en eRn k ⟨r1,r2,r3,r4,r5,1,r7,⟨c1,c2,c3,c4,c5⟩,.mk wk wn wt wa wc,⟨7,if n2 < -1 then -1 else n2,⟨#[]⟩,0,0,⟨#[]⟩,[],[]⟩,⟨some kn,f2,f3,f4,f5⟩,some zo.1⟩ zr.2
 ·exact sset_head _ _ _ _
end MN
