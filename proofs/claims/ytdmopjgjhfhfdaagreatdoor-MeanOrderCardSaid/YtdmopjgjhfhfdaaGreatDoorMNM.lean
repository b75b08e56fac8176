/- Contracts, and the law, for every input. No conditions. -/
import Derived.Test.YtdmopjgjhfhfdaaGreatDoorMNI
open Go Go.AM Go.Proofs TK
set_option maxRecDepth 100000
namespace MN
def eMt (R:Bool×(Sto Sc×Option Nat)):AV:=.tup [.p (eP sS R.2.2),.p (.b R.1)]
noncomputable def tyM:Nat→Option TI:=hint (tyOf Tryz.prog) 218 [1000023]
theorem tyM_ok:TyOK Tryz.prog tyM:=(tyOf_ok Tryz.prog).hint _ _
theorem matches_spec:∀(n:Nat) (p:TR.Pt) (v:Vl) (z:Sto Sc×Option Nat) (R:Bool×(Sto Sc×Option Nat)),matchF n p v z=some R→
 AMem Tryz.prog 236 [.p (TR.eP p),.p (eV v),.p (eP sS z.2)] [(1000000000,hSc sS z.1)] (eMt R) [(1000000000,hSc sS R.2.1)]
 |0,_,_,_,_,hF=>by cases hF
 |n+1,p,v,z,R,hF=>by
  have ih:=matches_spec n;obtain⟨pk,pn,pt,pa⟩:=p;obtain⟨vk,vn,vt,va,vc⟩:=v;obtain⟨⟨nx,M⟩,s⟩:=z;unfold matchF at hF;dsimp only[TR.Pt.kind,TR.Pt.text,TR.Pt.args,pnum,Vl.kind,Vl.num,Vl.text,Vl.args]at hF;rw[TR.eP,eV];unfold hSc eMt at *;dsimp only at *;refine AMem.intro tyM_ok hmix Tryz.func236 rfl (by rfl) (by kernel_rfl) (by show 3≤_;decide) rfl ?_;(conv=>whnf);refine asplit ?_ ?_<;>intro h1<;>conv=>whnf
  ·rw[show(pk==1)=true from h1]at hF
   cases hF;cases s
   all_goals
    (conv=>whnf);refine⟨.inl rfl,⟨s6,trivial⟩⟩
  rw[show(pk==1)=false from h1]at hF;dsimp only at hF;refine asplit ?_ ?_<;>intro h2<;>conv=>whnf
  ·rw[show(pk==2)=true from h2]at hF
   cases hF;cases s
   all_goals
    (conv=>whnf);refine⟨.inl rfl,⟨s6,trivial⟩⟩
  rw[show(pk==2)=false from h2]at hF;dsimp only at hF;refine asplit ?_ ?_<;>intro h3<;>conv=>whnf
  ·rw[show(pk==3)=true from h3]at hF
   cases hF;refine asplit ?_ ?_<;>intro g1<;>conv=>whnf
   ·rw[show(vk==2)=true from g1,Bool.true_and]
    refine aneed (.inl (by kernel_rfl)) ?_;(conv=>whnf);cases s
    all_goals
     (conv=>whnf);refine⟨.inl rfl,⟨s6,trivial⟩⟩
   ·rw[show(vk==2)=false from g1,Bool.false_and]
    refine aneed (.inl (by kernel_rfl)) ?_;(conv=>whnf);cases s
    all_goals
     (conv=>whnf);refine⟨.inl rfl,⟨s6,trivial⟩⟩
  rw[show(pk==3)=false from h3]at hF;dsimp only at hF;refine asplit ?_ ?_<;>intro h4<;>conv=>whnf
  ·rw[show(pk==4)=true from h4]at hF
   cases hF;refine asplit ?_ ?_<;>intro g1<;>conv=>whnf
   ·rw[show(vk==3)=true from g1,Bool.true_and]
    refine aneed (.inl (by kernel_rfl)) ?_;(conv=>whnf);cases s
    all_goals
     (conv=>whnf);refine⟨.inl rfl,⟨s6,trivial⟩⟩
   ·rw[show(vk==3)=false from g1,Bool.false_and]
    refine aneed (.inl (by kernel_rfl)) ?_;(conv=>whnf);cases s
    all_goals
     (conv=>whnf);refine⟨.inl rfl,⟨s6,trivial⟩⟩
  rw[show(pk==4)=false from h4]at hF;dsimp only at hF;refine asplit ?_ ?_<;>intro h5<;>conv=>whnf
  ·rw[show(pk==5)=true from h5]at hF
   cases hF;refine asplit ?_ ?_<;>intro g1<;>conv=>whnf
   ·rw[show(vk==4)=true from g1,Bool.true_and]
    refine aneed (.inl (by kernel_rfl)) ?_;(conv=>whnf);cases s
    all_goals
     (conv=>whnf);refine⟨.inl rfl,⟨s6,trivial⟩⟩
   ·rw[show(vk==4)=false from g1,Bool.false_and]
    refine aneed (.inl (by kernel_rfl)) ?_;(conv=>whnf);cases s
    all_goals
     (conv=>whnf);refine⟨.inl rfl,⟨s6,trivial⟩⟩
  rw[show(pk==5)=false from h5]at hF;dsimp only at hF;refine asplit ?_ ?_<;>intro h6<;>conv=>whnf
  case refine_2=>
   rw[show(pk==6)=false from h6]at hF;cases hF;cases s
   all_goals
    (conv=>whnf);refine⟨.inl rfl,⟨s6,trivial⟩⟩
  rw[show(pk==6)=true from h6]at hF;dsimp only at hF;refine asplit ?_ ?_<;>intro g1<;>conv=>whnf
  ·rw[show(!(vk==5)||!(eqB vt pt)||!(Nat.beq va.length pa.length))=true from(by rw[show(!(vk==5))=true from g1];rfl)]at hF
   cases hF;cases s
   all_goals
    (conv=>whnf);refine⟨.inl rfl,⟨s6,trivial⟩⟩
  have g1:(!(vk==5))=false:=g1;refine asplit ?_ ?_<;>intro g2<;>conv=>whnf
  ·rw[show(!(vk==5)||!(eqB vt pt)||!(Nat.beq va.length pa.length))=true from(by rw[g1,show(!(eqB vt pt))=true from g2];rfl)]at hF
   cases hF;cases s
   all_goals
    (conv=>whnf);refine⟨.inl rfl,⟨s6,trivial⟩⟩
  have g2:(!(eqB vt pt))=false:=g2;have hvl:(eVs va).length=va.length:=by rw[eVs_map];simp
  have hpl:(TR.ePs pa).length=pa.length:=TR.ePs_len pa;refine asplit ?_ ?_<;>intro g3<;>conv=>whnf
  ·rw[show(!(vk==5)||!(eqB vt pt)||!(Nat.beq va.length pa.length))=true from(by rw[g1,g2,show Nat.beq va.length pa.length=false from by cases hq:Nat.beq va.length pa.length with|false=>rfl|true=>have:=Nat.eq_of_beq_eq_true hq;rw[hvl,hpl,this]at g3;simp at g3];rfl)]at hF
   cases hF;cases s
   all_goals
    (conv=>whnf);refine⟨.inl rfl,⟨s6,trivial⟩⟩
  have g3:Nat.beq va.length pa.length=true:=by
   have:va.length=pa.length:=by rw[hvl,hpl]at g3;simp at g3;omega
   rw[this];exact Nat.beq_refl _
  rw[show(!(vk==5)||!(eqB vt pt)||!(Nat.beq va.length pa.length))=false by rw[g1,g2,g3];rfl]at hF;dsimp only at hF
  cases hll:Nat.ble pa.length 1000000 with
  |false=>rw[hll]at hF;cases hF
  |true=>
   rw[hll]at hF;dsimp only at hF;have hll:=Nat.le_of_ble_eq_true hll;have hvp:=Nat.eq_of_beq_eq_true g3;refine loopS (tyOf_ok _) hmix (by kernel_rfl) pa.length [2,3,4,86,87,88] [3,4,1000000000] (fun j (z:Sto Sc×Option Nat)=>[.p (eP sS z.2),.ptr 3 0,.ptr 4 0,.p (.sl 4 (TR.ePs pa)),.p (.i .i64 (TR.ePs pa).length),.p (.i .i64 (ix j))]) (fun _ z=>[.cells [.p (.i .i64 pk),.p (.i .i64 pn),.p (.s pt),.p (.sl 4 (TR.ePs pa))],.cells [.p (.i .i64 vk),.p (.i .i64 vn),.p (.s vt),.p (.sl 5 (eVs va)),.p (eP cS vc)],.store 218 true sS z.1.1 7 (enM (eSc sS) z.1.2)]) (fun j z=>matchL (matchF n) (pa.drop j) (va.drop j) z=some R) ((nx,M),s) ⟨rfl,rfl,rfl,rfl⟩ hF ?_;rintro j ⟨⟨nx,M⟩,s⟩ hj hQ;(conv=>whnf);refine asplit ?_ ?_<;>intro h1<;>conv=>whnf
   ·have hj1:=ix_tt h1 (by rw[hpl]) hj (by omega)
    obtain⟨a,ha⟩:∃a,pa[j]?=some a:=⟨_,List.getElem?_eq_getElem hj1⟩
    obtain⟨u,hu⟩:∃u,va[j]?=some u:=⟨_,List.getElem?_eq_getElem (by omega)⟩
    rw[drop_cons ha,drop_cons hu,matchL]at hQ
    cases hm:matchF n a u ((nx,M),s) with
    |none=>rw[hm]at hQ;cases hQ
    |some q=>
     rw[hm]at hQ;have hi:=ih a u ((nx,M),s) q hm;obtain⟨ak,an,at_,aa⟩:=a;obtain⟨uk,un,ut,ua,uc⟩:=u;obtain⟨b,⟨nx2,M2⟩,s2⟩:=q;rw[TR.eP,eV]at hi;dsimp only at hi hQ;cases s
     all_goals
      cases s2 with
      |none=>
       refine aidxk (x:=.agg [.i .i64 ak,.i .i64 an,.s at_,.sl 4 (TR.ePs aa)]) (TR.ePs_get ha) (by omega) ?_;(conv=>whnf);refine aidxk (x:=.agg [.i .i64 uk,.i .i64 un,.s ut,.sl 5 (eVs ua),eP cS uc]) (by rw[eVs_map];simp[hu,eV]) (by omega) ?_;(conv=>whnf);refine amc [1000000000] 400 hi ?_;(conv=>whnf)
       cases b with
       |false=>
        cases hQ;(conv=>whnf);refine aneed (.inl (by kernel_rfl)) ?_;(conv=>whnf);refine⟨.inl rfl,⟨s6,trivial⟩⟩
       |true=>
        (conv=>whnf);refine aneed (.inl (by kernel_rfl)) ?_;(conv=>whnf);exact⟨hj1,((nx2,M2),none),⟨rfl,rfl,rfl,rfl⟩,hQ⟩
      |some s2=>
       refine aidxk (x:=.agg [.i .i64 ak,.i .i64 an,.s at_,.sl 4 (TR.ePs aa)]) (TR.ePs_get ha) (by omega) ?_;(conv=>whnf);refine aidxk (x:=.agg [.i .i64 uk,.i .i64 un,.s ut,.sl 5 (eVs ua),eP cS uc]) (by rw[eVs_map];simp[hu,eV]) (by omega) ?_;(conv=>whnf);refine amc [1000000000] 400 hi ?_;(conv=>whnf)
       cases b with
       |false=>
        cases hQ;(conv=>whnf);refine aneed (.inl (by kernel_rfl)) ?_;(conv=>whnf);refine⟨.inl rfl,⟨s6,trivial⟩⟩
       |true=>
        (conv=>whnf);refine aneed (.inl (by kernel_rfl)) ?_;(conv=>whnf);exact⟨hj1,((nx2,M2),(some s2)),⟨rfl,rfl,rfl,rfl⟩,hQ⟩
   ·have h1:=ix_ff h1 (by rw[hpl]) hj (by omega)
    subst h1;rw[List.drop_length]at hQ
    cases s with
    |none=>
     cases hQ;(conv=>whnf);refine⟨.inl rfl,⟨s6,trivial⟩⟩
    |some s=>
     cases hQ;(conv=>whnf);refine⟨.inl rfl,⟨s6,trivial⟩⟩
end MN
open Go Go.AM Go.Proofs TK
set_option maxRecDepth 100000
namespace MN
theorem eAr_get {l:List Ar} {j:Nat} {a:Ar} {k n:Int} {t:ByteArray} {xs:List TR.Pt} (h:l[j]?=some a) (hp:a.pat=.mk k n t xs):(eArs l)[j]?=some (.agg [.i .i64 k,.i .i64 n,.s t,.sl 4 (TR.ePs xs),.adr nS a.body]):=by
 unfold eArs;rw[List.getElem?_map,h];obtain⟨p,b⟩:=a;dsimp only at hp;subst hp;rfl
theorem take_spec (K:Ks) (zr:Sto Rn) (k:Nat) (r:Rn) (f:Fr) (v:Vl) (hr:tlk k zr.2=some r) (S:Ss) (R:Bool×Ss×Rn) (hF:takeF K S r f v=some R):
 AMem Tryz.prog 232 [.p (.adr rS k),.p (.agg (cFr f)),.p (eV v)] (hA K S zr) (.p (.b R.1)) (hA K R.2.1 (zr.1,match R.1 with|true=>tset k R.2.2 zr.2|false=>zr.2)):=by
 have hev:=fun j s=>eval_spec zr k j f s r hr;have hmt:=matches_spec 60;obtain⟨f1,f2,f3,f4,f5⟩:=f;obtain⟨vk,vn,vt,va,vc⟩:=v;obtain⟨So,Ssc,Sv,Sf,Sc0,Sg0⟩:=S;unfold takeF nodeF at hF;dsimp only at hF
 cases f1 with
 |none=>cases hF
 |some kn=>
  dsimp only at hF
  cases hn:tlk kn K.n.2 with
  |none=>rw[hn]at hF;cases hF
  |some n=>
   rw[hn]at hF;dsimp only at hF
   cases hal:armsF K n with
   |none=>rw[hal]at hF;cases hF
   |some l=>
    rw[hal]at hF;dsimp only at hF;obtain⟨n1,n2,n3,n4,n5,n6,n7,n8,n9⟩:=n;unfold hA hRn hOu hNd hAr hBr hSc hVb hFb hCl at *;unfold cFr at *;dsimp only at *;unfold armsF at hal;dsimp only at hal;rw[eV]
    cases n6 with
    |none=>
     cases hal;cases hF;refine AMem.intro (tyOf_ok Tryz.prog) hmix Tryz.func232 rfl (by rfl) (by kernel_rfl) (by show 3≤_;decide) rfl ?_;(conv=>whnf);refine lpe eNd hn rfl ?_;(conv=>whnf);refine loopS (tyOf_ok _) hmix (by kernel_rfl) 0 [15,16,17] iA (fun j (_:Unit)=>[.p .nsl,.p (.i .i64 0),.p (.i .i64 (ix j))]) (fun _ _=>hObj K ⟨So,Ssc,Sv,Sf,Sc0,Sg0⟩ zr) (fun _ _=>True) () ⟨rfl,rfl,rfl,rfl⟩ trivial ?_;rintro j _ hj -;(conv=>whnf);refine asplit ?_ ?_<;>intro h1<;>conv=>whnf
     ·have:j=0:=by omega
      subst this;cases h1
     ·refine⟨.inl rfl,⟨s6,s6,s6,s6,s6,s6,s6,s6,s6,s6,s6,s6,s6,s6,s6,s6,trivial⟩⟩
    |some q=>
     obtain⟨q1,q2⟩:=q;dsimp only at hal
     cases hlk:tlk q1 K.b.2 with
     |none=>rw[hlk]at hal;cases hal
     |some L=>
      rw[hlk]at hal;dsimp only at hal
      cases hg:Nat.ble q2 L.length&&Nat.ble q2 1000000 with
      |false=>rw[hg]at hal;cases hal
      |true=>
       rw[hg]at hal;cases hal;rw[Bool.and_eq_true]at hg;have hg1:=Nat.le_of_ble_eq_true hg.1;have hg2:=Nat.le_of_ble_eq_true hg.2;refine AMem.intro (tyOf_ok Tryz.prog) hmix Tryz.func232 rfl (by rfl) (by kernel_rfl) (by show 3≤_;decide) rfl ?_;(conv=>whnf);refine lpe eNd hn rfl ?_;(conv=>whnf);refine loopS (tyOf_ok _) hmix (by kernel_rfl) q2 [0,4,5,15,16,17] (4::5::iA) (fun j (_:Sto Sc)=>[.p (.adr rS k),.ptr 4 0,.ptr 5 0,.p (.ads bS q1 q2),.p (.i .i64 q2),.p (.i .i64 (ix j))]) (fun _ s=>.cells [.p (.adr nS kn),.p (eP sS f2),.p (eFV f3),.p (.i .i64 f4),.p (.b f5)]::.cells [.p (.i .i64 vk),.p (.i .i64 vn),.p (.s vt),.p (.sl 5 (eVs va)),.p (eP cS vc)]::hObj K ⟨So,s,Sv,Sf,Sc0,Sg0⟩ zr) (fun j s=>takeL ⟨some kn,f2,f3,f4,f5⟩ (.mk vk vn vt va vc) ((L.take q2).drop j) ⟨So,s,Sv,Sf,Sc0,Sg0⟩ r=some R) Ssc ⟨rfl,rfl,rfl,rfl⟩ hF ?_;rintro j s hj hQ;(conv=>whnf);refine asplit ?_ ?_<;>intro h1<;>conv=>whnf
       ·have hj1:=ix_tt h1 rfl hj (by omega)
        have hjl:(L.take q2)[j]?=L[j]?:=List.getElem?_take_of_lt hj1;obtain⟨a,ha⟩:∃a,L[j]?=some a:=⟨_,List.getElem?_eq_getElem (by omega)⟩
        rw[drop_cons (hjl.trans ha),takeL]at hQ;have hji:(ix j).toNat=j:=by rw[ix_eq (by omega)];simp
        refine aneed ⟨by rw[ix_eq (by omega)];omega,by rw[hji];exact hj1⟩ ?_;rw[hji]
        cases hm:matchF 60 a.pat (.mk vk vn vt va vc) (s,f2) with
        |none=>dsimp only at hQ;rw[hm]at hQ;cases hQ
        |some q=>
         dsimp only at hQ;rw[hm]at hQ;have hmt:=hmt a.pat (.mk vk vn vt va vc) (s,f2) q hm;obtain⟨⟨ak,an,at_,aa⟩,ab⟩:=a;obtain⟨b,s2,w⟩:=q;have hev:=hev ab w;dsimp only at hmt hQ;rw[TR.eP,eV]at hmt;unfold eMt at hmt;dsimp only at hmt
         cases b with
         |false=>
          cases w
          all_goals
           (conv=>whnf);refine aneed ⟨rfl,by decide,.inr rfl⟩ ?_;refine⟨_,slk_in hlk,?_⟩;refine aidxn (i:=j) (x:=.agg [.i .i64 ak,.i .i64 an,.s at_,.sl 4 (TR.ePs aa),.adr nS ab]) (eAr_get ha rfl) ?_;(conv=>whnf);refine amc [1000000005] 400 hmt ?_;(conv=>whnf);exact⟨hj1,s2,⟨rfl,rfl,rfl,rfl⟩,hQ⟩
         |true=>
          cases hQ;cases w
          all_goals
           (conv=>whnf);refine aneed ⟨rfl,by decide,.inr rfl⟩ ?_;refine⟨_,slk_in hlk,?_⟩;refine aidxn (i:=j) (x:=.agg [.i .i64 ak,.i .i64 an,.s at_,.sl 4 (TR.ePs aa),.adr nS ab]) (eAr_get ha rfl) ?_;(conv=>whnf);refine amc [1000000005] 400 hmt ?_;(conv=>whnf);refine amc [1000000000] 400 hev ?_;(conv=>whnf);refine⟨.inl rfl,⟨s6,s6,s6,s6,s6,s6,s6,s6,s6,s6,s6,s6,s6,s6,s6,s6,trivial⟩⟩
       ·have h1:=ix_ff h1 rfl hj (by omega)
        subst h1;rw[List.drop_eq_nil_of_le (by rw[List.length_take];omega)]at hQ;cases hQ;refine⟨.inl rfl,⟨s6,s6,s6,s6,s6,s6,s6,s6,s6,s6,s6,s6,s6,s6,s6,s6,trivial⟩⟩
end MN
open Go Go.AM Go.Proofs TK
set_option maxRecDepth 100000
namespace MN
theorem tlk_id {α:Type} {k:Nat} {x:α}:∀{M:List (Nat×α)},tlk k M=some x→tset k x M=M
 | [],h=>by cases h
 |(a,y)::r,h=>by
  rw[tlk]at h;rw[tset]
  cases hb:Nat.beq a k with
  |true=>rw[hb]at h;cases h;rfl
  |false=>rw[hb]at h;dsimp only at h ⊢;rw[tlk_id h]
theorem takeL_r {f:Fr} {v:Vl} {r S2 r2}:∀{l:List Ar} {S:Ss},takeL f v l S r=some (false,S2,r2)→r2=r
 | [],_,h=>by cases h;rfl
 |a::l,S,h=>by
  rw[takeL]at h;split at h
  ·cases h
  ·cases h
  ·exact takeL_r h
theorem takeF_r {K:Ks} {S S2:Ss} {r r2:Rn} {f:Fr} {v:Vl} (h:takeF K S r f v=some (false,S2,r2)):r2=r:=by
 unfold takeF at h;split at h
 ·cases h
 ·split at h
  ·cases h
  ·exact takeL_r h
theorem match_spec (K:Ks) (S:Ss) (zr:Sto Rn) (k:Nat) (r:Rn) (f:Fr) (xs:List Vl) (R:Ss×Rn) (hr:tlk k zr.2=some r) (hf:f.vals=.lst xs) (hF:matchSF K S r f xs=some R):
 AMem Tryz.prog 246 [.p (.adr rS k),.p (.agg (cFr f))] (hA K S zr) (.tup []) (hA K R.1 (zr.1,tset k R.2 zr.2)):=by
 unfold matchSF at hF
 cases xs with
 |nil=>cases hF
 |cons v xs=>
  try dsimp only at hF
  cases ht:takeF K S r f v with
  |none=>rw[ht]at hF;cases hF
  |some q=>
   rw[ht]at hF;have htk:=take_spec K zr k r f v hr S q ht;obtain⟨b,S2,r2⟩:=q;obtain⟨f1,f2,f3,f4,f5⟩:=f;obtain⟨vk,vn,vt,va,vc⟩:=v;dsimp only at hf;subst hf
   cases b with
   |true=>
    cases hF;dsimp only at htk;unfold hA cFr at *;rw[eV]at htk;dsimp only[eFV]at *;refine AMem.intro (tyOf_ok Tryz.prog) hmix Tryz.func246 rfl (by rfl) (by kernel_rfl) (by show 2≤_;decide) rfl ?_;(conv=>whnf);refine aidxn (i:=0) (x:=.agg [.i .i64 vk,.i .i64 vn,.s vt,.sl 5 (eVs va),eP cS vc]) (by rw[eVs_map];simp[eV]) ?_;(conv=>whnf);refine amc iA 300 htk ?_;(conv=>whnf);refine aneed (.inl (by kernel_rfl)) ?_;(conv=>whnf);refine⟨.inl rfl,⟨s6,s6,s6,s6,s6,s6,s6,s6,s6,s6,s6,s6,s6,s6,s6,s6,trivial⟩⟩
   |false=>
    have hr2:r2=r:=takeF_r ht;cases hF;dsimp only at htk;have hfl:=fail_spec zr S2.o k wMatch r hr;unfold hA cFr at *;rw[eV]at htk;dsimp only[eFV]at *;refine AMem.intro (tyOf_ok Tryz.prog) hmix Tryz.func246 rfl (by rfl) (by kernel_rfl) (by show 2≤_;decide) rfl ?_;(conv=>whnf);refine aidxn (i:=0) (x:=.agg [.i .i64 vk,.i .i64 vn,.s vt,.sl 5 (eVs va),eP cS vc]) (by rw[eVs_map];simp[eV]) ?_;(conv=>whnf);refine amc iA 300 htk ?_;(conv=>whnf);refine aneed (.inl (by kernel_rfl)) ?_;(conv=>whnf);refine amc [1000000000,1000000001] 300 hfl ?_;(conv=>whnf);rw[hr2];refine⟨.inl rfl,⟨s6,s6,s6,s6,s6,s6,s6,s6,s6,s6,s6,s6,s6,s6,s6,s6,trivial⟩⟩
theorem become_spec (K:Ks) (S:Ss) (zr:Sto Rn) (k:Nat) (r:Rn) (f:Fr) (xs:List Vl) (R:Ss×Rn) (hr:tlk k zr.2=some r) (hf:f.vals=.lst xs) (hF:becomeF S r f xs=some R):
 AMem Tryz.prog 249 [.p (.adr rS k),.p (.agg (cFr f))] (hA K S zr) (.tup []) (hA K R.1 (zr.1,tset k R.2 zr.2)):=by
 have hfl:=fun w=>fail_spec zr S.o k w r hr;obtain⟨f1,f2,f3,f4,f5⟩:=f;dsimp only at hf;subst hf;unfold becomeF at hF
 try dsimp only at hF
 cases hg:Nat.ble xs.length 1000000&&Nat.ble r.names.length 1000000 with
 |false=>rw[hg]at hF;cases hF
 |true=>
  rw[hg]at hF;rw[Bool.and_eq_true]at hg;have hg1:=Nat.le_of_ble_eq_true hg.1;have hg2:=Nat.le_of_ble_eq_true hg.2
  try dsimp only at hF
  have hbg:=fun R=>begin_spec zr S.s k xs r R hr hg2;have hal:=fun b=>anyLarge_spec S.c xs b hg1;obtain⟨r1,r2,r3,r4,r5,r6,r7,⟨c1,c2,c3,c4,c5⟩,⟨wk,wn,wt,wa,wc⟩,⟨o1,o2,o3,o4,o5,o6,o7,o8⟩,⟨p1,p2,p3,p4,p5⟩,r12⟩:=r;have hxl:(eVs xs).length=xs.length:=by rw[eVs_map];simp
  unfold hA hRn cFr at *;refine AMem.intro (tyOf_ok Tryz.prog) hmix Tryz.func249 rfl (by rfl) (by kernel_rfl) (by show 2≤_;decide) rfl ?_;(conv=>whnf);refine asplit ?_ ?_<;>intro h1<;>conv=>whnf
  ·rw[show f5=true from h1,Bool.true_or]at hF
   cases hF;refine aneed (.inl (by kernel_rfl)) ?_;(conv=>whnf);refine amc [1000000000,1000000001] 300 (hfl wType) ?_;(conv=>whnf);refine⟨.inl rfl,⟨s6,s6,s6,s6,s6,s6,s6,s6,s6,s6,s6,s6,s6,s6,s6,s6,trivial⟩⟩
  rw[show f5=false from h1,Bool.false_or]at hF;refine lpe eRn hr rfl ?_;(conv=>whnf);refine aneed (.inl (by kernel_rfl)) ?_;(conv=>whnf);refine asplit ?_ ?_<;>intro h2<;>conv=>whnf
  ·rw[show Nat.beq xs.length r2.length=false from by cases hq:Nat.beq xs.length r2.length with|false=>rfl|true=>have:=Nat.eq_of_beq_eq_true hq;rw[hxl,List.length_map,this]at h2;simp at h2]at hF
   cases hF;refine amc [1000000000,1000000001] 300 (hfl wType) ?_;(conv=>whnf);refine⟨.inl rfl,⟨s6,s6,s6,s6,s6,s6,s6,s6,s6,s6,s6,s6,s6,s6,s6,s6,trivial⟩⟩
  rw[show Nat.beq xs.length r2.length=true from by
   have:xs.length=r2.length:=by rw[hxl,List.length_map]at h2;simp at h2;omega
   rw[this];exact Nat.beq_refl _]at hF
  dsimp only[Bool.not_true]at hF
  cases ha:anyLF S.c.2 xs with
  |none=>rw[ha]at hF;cases hF
  |some b=>
   rw[ha]at hF;have hal:=hal b ha;refine amc [1000000008] 300 hal ?_;(conv=>whnf)
   cases b with
   |true=>
    cases hF;(conv=>whnf);refine amc [1000000000,1000000001] 300 (hfl wLarge) ?_;(conv=>whnf);refine⟨.inl rfl,⟨s6,s6,s6,s6,s6,s6,s6,s6,s6,s6,s6,s6,s6,s6,s6,s6,trivial⟩⟩
   |false=>
    try dsimp only at hF
    cases hw:withF r2 xs (S.s,none) with
    |none=>rw[hw]at hF;cases hF
    |some Q=>
     rw[hw]at hF;cases hF;have hbg:=hbg Q hw;(conv=>whnf);refine amc [1000000000,1000000005] 300 hbg ?_;(conv=>whnf);refine⟨.inl rfl,⟨s6,s6,s6,s6,s6,s6,s6,s6,s6,s6,s6,s6,s6,s6,s6,s6,trivial⟩⟩
end MN
open Go Go.AM Go.Proofs TK
set_option maxRecDepth 100000
namespace MN
theorem spawn_spec (K:Ks) (S:Ss) (zr:Sto Rn) (k:Nat) (r:Rn) (kn:Nat) (n:Nd) (f2:Option Nat) (f4:Int) (f5:Bool) (xs:List Vl) (R:Ss×Rn) (hr:tlk k zr.2=some r) (hn:tlk kn K.n.2=some n) (hF:spawnF K S r n xs=some R):
 AMem Tryz.prog 258 [.p (.adr rS k),.p (.agg (cFr ⟨some kn,f2,.lst xs,f4,f5⟩))] (hA K S zr) (.tup []) (hA K R.1 (zr.1,tset k R.2 zr.2)):=by
 have hfl:=fun w=>fail_spec zr S.o k w r hr;have htl:=fun o=>tell_spec zr S.o k o r hr;unfold spawnF at hF
 cases hm:tlk r.maker K.mm.2 with
 |none=>rw[hm]at hF;cases hF
 |some m=>
  rw[hm]at hF;dsimp only at hF
  cases he:tlk m.actors K.ma.2 with
  |none=>rw[he]at hF;cases hF
  |some es=>
   rw[he]at hF;dsimp only at hF;obtain⟨m1,m2,m3,m4,m5,m6⟩:=m;have hlk:=fun d=>tfind_look eFn n.text d es;have hxl:(eVs xs).length=xs.length:=by rw[eVs_map];simp
   cases hf:tfind n.text es with
   |none=>
    rw[hf]at hF hlk;cases hF;obtain⟨n1,n2,n3,n4,n5,n6,n7,n8,n9⟩:=n;unfold hA hRn hMk hMa hNd cFr at *;dsimp only[eFV]at *;refine AMem.intro (tyOf_ok Tryz.prog) hmix Tryz.func258 rfl (by rfl) (by kernel_rfl) (by show 2≤_;decide) rfl ?_;(conv=>whnf);refine lpe eRn hr rfl ?_;(conv=>whnf);refine lpe eMk hm rfl ?_;(conv=>whnf);refine lpe eNd hn rfl ?_;(conv=>whnf);refine aneed ⟨rfl,rfl⟩ ?_;refine⟨eTM eFn es,slk_in (enc:=eTM2 eFn) he,?_⟩;refine⟨_,_,hlk _,?_⟩;(conv=>whnf);refine aneed (.inl (by kernel_rfl)) ?_;(conv=>whnf);refine amc [1000000000,1000000001] 300 (hfl wName) ?_;(conv=>whnf);refine⟨.inl rfl,⟨s6,s6,s6,s6,s6,s6,s6,s6,s6,s6,s6,s6,s6,s6,s6,s6,trivial⟩⟩
   |some a=>
    rw[hf]at hF hlk;obtain⟨an,ab⟩:=a;dsimp only at hF;have hanl:(an.map PV.s).length=an.length:=List.length_map _;have hV:=leaveV_spec S.c S.g xs
    cases hb:Nat.beq an.length xs.length with
    |false=>
     rw[hb]at hF;cases hF;obtain⟨n1,n2,n3,n4,n5,n6,n7,n8,n9⟩:=n;unfold hA hRn hMk hMa hNd cFr at *;dsimp only[eFV]at *;refine AMem.intro (tyOf_ok Tryz.prog) hmix Tryz.func258 rfl (by rfl) (by kernel_rfl) (by show 2≤_;decide) rfl ?_;(conv=>whnf);refine lpe eRn hr rfl ?_;(conv=>whnf);refine lpe eMk hm rfl ?_;(conv=>whnf);refine lpe eNd hn rfl ?_;(conv=>whnf);refine aneed ⟨rfl,rfl⟩ ?_;refine⟨eTM eFn es,slk_in (enc:=eTM2 eFn) he,?_⟩;refine⟨_,_,hlk _,?_⟩;(conv=>whnf);refine aneed (.inl (by kernel_rfl)) ?_;(conv=>whnf)
     refine ast (by rw[hanl,hxl];have:an.length≠xs.length:=fun e=>by rw[e,Nat.beq_refl]at hb;cases hb
                    simp;omega) ?_
     (conv=>whnf);refine amc [1000000000,1000000001] 300 (hfl wType) ?_;(conv=>whnf);refine⟨.inl rfl,⟨s6,s6,s6,s6,s6,s6,s6,s6,s6,s6,s6,s6,s6,s6,s6,s6,trivial⟩⟩
    |true=>
     rw[hb]at hF;dsimp only at hF
     cases hQ:leaveV S.c S.g xs with
     |none=>rw[hQ]at hF;cases hF
     |some Q=>
      rw[hQ]at hF;have hV:=hV Q hQ;obtain⟨⟨os,why⟩,c2,g2⟩:=Q;dsimp only at hF hV;obtain⟨n1,n2,n3,n4,n5,n6,n7,n8,n9⟩:=n;have hend:=fun(M:List (Nat×Rn)) (r':Rn)=>sset_en eRn k r' M
      cases hw:eqB why ⟨#[]⟩ with
      |false=>
       rw[hw]at hF;cases hF;unfold hA hRn hMk hMa hNd cFr at *;dsimp only[eFV]at *;refine AMem.intro (tyOf_ok Tryz.prog) hmix Tryz.func258 rfl (by rfl) (by kernel_rfl) (by show 2≤_;decide) rfl ?_;(conv=>whnf);refine lpe eRn hr rfl ?_;(conv=>whnf);refine lpe eMk hm rfl ?_;(conv=>whnf);refine lpe eNd hn rfl ?_;(conv=>whnf);refine aneed ⟨rfl,rfl⟩ ?_;refine⟨eTM eFn es,slk_in (enc:=eTM2 eFn) he,?_⟩;refine⟨_,_,hlk _,?_⟩;(conv=>whnf);refine aneed (.inl (by kernel_rfl)) ?_;(conv=>whnf);refine asf (by rw[hanl,hxl,Nat.eq_of_beq_eq_true hb];simp) ?_;(conv=>whnf);refine amc [1000000008,1000000015] 300 hV ?_;(conv=>whnf);refine ast (by rw[show(why.toList==ByteArray.toList ⟨#[]⟩)=false from hw];rfl) ?_;(conv=>whnf);refine amc [1000000000,1000000001] 300 (hfl why) ?_;(conv=>whnf);refine⟨.inl rfl,⟨s6,s6,s6,s6,s6,s6,s6,s6,s6,s6,s6,s6,s6,s6,s6,s6,trivial⟩⟩
      |true=>
       rw[hw]at hF;cases hF;have htl:=htl ⟨4,0,n3,0,0,⟨#[]⟩,[],os⟩;have hrt:=tlk_tset (y:=tellR r S.o.1) hr;have hen2:=fun(y:Rn)=>(sset_en eRn k y (tset k (tellR r S.o.1) zr.2)).trans (congrArg (enM eRn) (tset_tset k (tellR r S.o.1) y zr.2));unfold hA hRn hMk hMa hNd cFr at *;dsimp only[eFV]at *;refine AMem.intro (tyOf_ok Tryz.prog) hmix Tryz.func258 rfl (by rfl) (by kernel_rfl) (by show 2≤_;decide) rfl ?_;(conv=>whnf);refine lpe eRn hr rfl ?_;(conv=>whnf);refine lpe eMk hm rfl ?_;(conv=>whnf);refine lpe eNd hn rfl ?_;(conv=>whnf);refine aneed ⟨rfl,rfl⟩ ?_;refine⟨eTM eFn es,slk_in (enc:=eTM2 eFn) he,?_⟩;refine⟨_,_,hlk _,?_⟩;(conv=>whnf);refine aneed (.inl (by kernel_rfl)) ?_;(conv=>whnf);refine asf (by rw[hanl,hxl,Nat.eq_of_beq_eq_true hb];simp) ?_;(conv=>whnf);refine amc [1000000008,1000000015] 300 hV ?_;(conv=>whnf);refine asf (by rw[show(why.toList==ByteArray.toList ⟨#[]⟩)=true from hw];rfl) ?_;(conv=>whnf);refine lpe eNd hn rfl ?_;(conv=>whnf);refine amc [1000000000,1000000001] 300 htl ?_;(conv=>whnf);refine lpe eRn hrt rfl ?_;(conv=>whnf);obtain⟨r1,r2,r3,r4,r5,r6,r7,⟨c1,c2',c3,c4,c5⟩,⟨wk,wn,wt,wa,wc⟩,⟨o1,o2,o3,o4,o5,o6,o7,o8⟩,⟨p1,p2,p3,p4,p5⟩,r12⟩:=r;refine⟨.inl rfl,⟨⟨rfl,rfl,rfl,rfl,rfl,?_⟩,s6,s6,s6,s6,s6,s6,s6,s6,s6,s6,s6,s6,s6,s6,s6,trivial⟩⟩;exact hen2 { tellR ⟨r1,r2,r3,r4,r5,r6,r7,⟨c1,c2',c3,c4,c5⟩,⟨wk,wn,wt,wa,wc⟩,⟨o1,o2,o3,o4,o5,o6,o7,o8⟩,⟨p1,p2,p3,p4,p5⟩,r12⟩ S.o.1 with mode:=2 }
theorem leave_20 (K:Ks) (S:Ss) (zr:Sto Rn) (k:Nat) (r:Rn) (kn:Nat) (n:Nd) (f2:Option Nat) (f4:Int) (f5:Bool) (v:Vl) (xs:List Vl) (R:Ss×Rn) (hr:tlk k zr.2=some r) (hn:tlk kn K.n.2=some n) (hk:n.kind=20) (hF:wantF S r v 2 (some (tellS S r (oNum 2 v.num)))=some R):
 AMem Tryz.prog 250 [.p (.adr rS k),.p (.agg (cFr ⟨some kn,f2,.lst (v::xs),f4,f5⟩))] (hA K S zr) (.tup []) (hA K R.1 (zr.1,tset k R.2 zr.2)):=by
 have hfl:=fun(c:Sto Cl) (g:Sto (List Nat)) w=>fail_spec zr ({ S with c:=c,g:=g }:Ss).o k w r hr;have htl:=fun(c:Sto Cl) (g:Sto (List Nat)) o=>tell_spec zr ({ S with c:=c,g:=g }:Ss).o k o r hr;have hV:=leaveV_spec S.c S.g xs;have hsl:(((eVs (v::xs)).take (((eVs (v::xs)).length:Int)).toNat).drop (1:Int).toNat)=eVs xs:=by rw[Int.toNat_natCast,List.take_length];rfl
 unfold wantF at hF;obtain⟨n1,n2,n3,n4,n5,n6,n7,n8,n9⟩:=n;dsimp only at hk;subst hk;obtain⟨vk,vn,vt,va,vc⟩:=v;dsimp only[Vl.kind,Vl.num,Vl.text]at hF;have hv0:(eVs (.mk vk vn vt va vc::xs))[0]?=some (.agg [.i .i64 vk,.i .i64 vn,.s vt,.sl 5 (eVs va),eP cS vc]):=by rw[eVs_map];simp[eV]
 unfold hA hNd cFr at *;dsimp only[eFV]at *;refine AMem.intro (tyOf_ok Tryz.prog) hmix Tryz.func250 rfl (by rfl) (by kernel_rfl) (by show 2≤_;decide) rfl ?_;(conv=>whnf);refine aneed (.inl (by kernel_rfl)) ?_;(conv=>whnf);refine lpe eNd hn rfl ?_;(conv=>whnf)
 first|refine ast (by kernel_rfl) ?_|refine asf (by kernel_rfl) ?_|skip
 conv=>whnf
 first|refine ast (by kernel_rfl) ?_|refine asf (by kernel_rfl) ?_|skip
 (conv=>whnf);refine lpe eNd hn rfl ?_;(conv=>whnf)
 first|refine ast (by kernel_rfl) ?_|refine asf (by kernel_rfl) ?_|skip
 (conv=>whnf);refine aidxn (i:=0) hv0 ?_;(conv=>whnf);refine asplit ?_ ?_<;>intro h1<;>conv=>whnf
 ·rw[show(vk==2)=false by simpa using h1]at hF
  cases hF;refine amc [1000000000,1000000001] 300 (hfl S.c S.g wType) ?_;(conv=>whnf);refine⟨.inl rfl,⟨s6,s6,s6,s6,s6,s6,s6,s6,s6,s6,s6,s6,s6,s6,s6,s6,trivial⟩⟩
 rw[show(vk==2)=true by simpa using h1]at hF;dsimp only at hF;refine lpe eNd hn rfl ?_;(conv=>whnf)
 first|refine ast (by kernel_rfl) ?_|refine asf (by kernel_rfl) ?_|skip
 conv=>whnf
 first|refine ast (by kernel_rfl) ?_|refine asf (by kernel_rfl) ?_|skip
 conv=>whnf
 first|refine ast (by kernel_rfl) ?_|refine asf (by kernel_rfl) ?_|skip
 conv=>whnf
 first|refine ast (by kernel_rfl) ?_|refine asf (by kernel_rfl) ?_|skip
 conv=>whnf
 first|refine ast (by kernel_rfl) ?_|refine asf (by kernel_rfl) ?_|skip
 (conv=>whnf);cases hF;refine aidxn (i:=0) hv0 ?_;(conv=>whnf);refine amc [1000000000,1000000001] 300 (htl S.c S.g (oNum 2 vn)) ?_;(conv=>whnf);refine⟨.inl rfl,⟨s6,s6,s6,s6,s6,s6,s6,s6,s6,s6,s6,s6,s6,s6,s6,s6,trivial⟩⟩
theorem leave_24 (K:Ks) (S:Ss) (zr:Sto Rn) (k:Nat) (r:Rn) (kn:Nat) (n:Nd) (f2:Option Nat) (f4:Int) (f5:Bool) (v:Vl) (xs:List Vl) (R:Ss×Rn) (hr:tlk k zr.2=some r) (hn:tlk kn K.n.2=some n) (hk:n.kind=24) (hF:wantF S r v 6 (some (tellS S r (oNum 5 v.num)))=some R):
 AMem Tryz.prog 250 [.p (.adr rS k),.p (.agg (cFr ⟨some kn,f2,.lst (v::xs),f4,f5⟩))] (hA K S zr) (.tup []) (hA K R.1 (zr.1,tset k R.2 zr.2)):=by
 have hfl:=fun(c:Sto Cl) (g:Sto (List Nat)) w=>fail_spec zr ({ S with c:=c,g:=g }:Ss).o k w r hr;have htl:=fun(c:Sto Cl) (g:Sto (List Nat)) o=>tell_spec zr ({ S with c:=c,g:=g }:Ss).o k o r hr;have hV:=leaveV_spec S.c S.g xs;have hsl:(((eVs (v::xs)).take (((eVs (v::xs)).length:Int)).toNat).drop (1:Int).toNat)=eVs xs:=by rw[Int.toNat_natCast,List.take_length];rfl
 unfold wantF at hF;obtain⟨n1,n2,n3,n4,n5,n6,n7,n8,n9⟩:=n;dsimp only at hk;subst hk;obtain⟨vk,vn,vt,va,vc⟩:=v;dsimp only[Vl.kind,Vl.num,Vl.text]at hF;have hv0:(eVs (.mk vk vn vt va vc::xs))[0]?=some (.agg [.i .i64 vk,.i .i64 vn,.s vt,.sl 5 (eVs va),eP cS vc]):=by rw[eVs_map];simp[eV]
 unfold hA hNd cFr at *;dsimp only[eFV]at *;refine AMem.intro (tyOf_ok Tryz.prog) hmix Tryz.func250 rfl (by rfl) (by kernel_rfl) (by show 2≤_;decide) rfl ?_;(conv=>whnf);refine aneed (.inl (by kernel_rfl)) ?_;(conv=>whnf);refine lpe eNd hn rfl ?_;(conv=>whnf)
 first|refine ast (by kernel_rfl) ?_|refine asf (by kernel_rfl) ?_|skip
 conv=>whnf
 first|refine ast (by kernel_rfl) ?_|refine asf (by kernel_rfl) ?_|skip
 (conv=>whnf);refine lpe eNd hn rfl ?_;(conv=>whnf)
 first|refine ast (by kernel_rfl) ?_|refine asf (by kernel_rfl) ?_|skip
 (conv=>whnf);refine aidxn (i:=0) hv0 ?_;(conv=>whnf);refine asplit ?_ ?_<;>intro h1<;>conv=>whnf
 ·rw[show(vk==6)=false by simpa using h1]at hF
  cases hF;refine amc [1000000000,1000000001] 300 (hfl S.c S.g wType) ?_;(conv=>whnf);refine⟨.inl rfl,⟨s6,s6,s6,s6,s6,s6,s6,s6,s6,s6,s6,s6,s6,s6,s6,s6,trivial⟩⟩
 rw[show(vk==6)=true by simpa using h1]at hF;dsimp only at hF;refine lpe eNd hn rfl ?_;(conv=>whnf)
 first|refine ast (by kernel_rfl) ?_|refine asf (by kernel_rfl) ?_|skip
 conv=>whnf
 first|refine ast (by kernel_rfl) ?_|refine asf (by kernel_rfl) ?_|skip
 conv=>whnf
 first|refine ast (by kernel_rfl) ?_|refine asf (by kernel_rfl) ?_|skip
 conv=>whnf
 first|refine ast (by kernel_rfl) ?_|refine asf (by kernel_rfl) ?_|skip
 conv=>whnf
 first|refine ast (by kernel_rfl) ?_|refine asf (by kernel_rfl) ?_|skip
 (conv=>whnf);cases hF;refine aidxn (i:=0) hv0 ?_;(conv=>whnf);refine amc [1000000000,1000000001] 300 (htl S.c S.g (oNum 5 vn)) ?_;(conv=>whnf);refine⟨.inl rfl,⟨s6,s6,s6,s6,s6,s6,s6,s6,s6,s6,s6,s6,s6,s6,s6,s6,trivial⟩⟩
theorem leave_25 (K:Ks) (S:Ss) (zr:Sto Rn) (k:Nat) (r:Rn) (kn:Nat) (n:Nd) (f2:Option Nat) (f4:Int) (f5:Bool) (v:Vl) (xs:List Vl) (R:Ss×Rn) (hr:tlk k zr.2=some r) (hn:tlk kn K.n.2=some n) (hk:n.kind=25) (hF:wantF S r v 6 (some (tellS S r (oNum 6 v.num)))=some R):
 AMem Tryz.prog 250 [.p (.adr rS k),.p (.agg (cFr ⟨some kn,f2,.lst (v::xs),f4,f5⟩))] (hA K S zr) (.tup []) (hA K R.1 (zr.1,tset k R.2 zr.2)):=by
 have hfl:=fun(c:Sto Cl) (g:Sto (List Nat)) w=>fail_spec zr ({ S with c:=c,g:=g }:Ss).o k w r hr;have htl:=fun(c:Sto Cl) (g:Sto (List Nat)) o=>tell_spec zr ({ S with c:=c,g:=g }:Ss).o k o r hr;have hV:=leaveV_spec S.c S.g xs;have hsl:(((eVs (v::xs)).take (((eVs (v::xs)).length:Int)).toNat).drop (1:Int).toNat)=eVs xs:=by rw[Int.toNat_natCast,List.take_length];rfl
 unfold wantF at hF;obtain⟨n1,n2,n3,n4,n5,n6,n7,n8,n9⟩:=n;dsimp only at hk;subst hk;obtain⟨vk,vn,vt,va,vc⟩:=v;dsimp only[Vl.kind,Vl.num,Vl.text]at hF;have hv0:(eVs (.mk vk vn vt va vc::xs))[0]?=some (.agg [.i .i64 vk,.i .i64 vn,.s vt,.sl 5 (eVs va),eP cS vc]):=by rw[eVs_map];simp[eV]
 unfold hA hNd cFr at *;dsimp only[eFV]at *;refine AMem.intro (tyOf_ok Tryz.prog) hmix Tryz.func250 rfl (by rfl) (by kernel_rfl) (by show 2≤_;decide) rfl ?_;(conv=>whnf);refine aneed (.inl (by kernel_rfl)) ?_;(conv=>whnf);refine lpe eNd hn rfl ?_;(conv=>whnf)
 first|refine ast (by kernel_rfl) ?_|refine asf (by kernel_rfl) ?_|skip
 conv=>whnf
 first|refine ast (by kernel_rfl) ?_|refine asf (by kernel_rfl) ?_|skip
 (conv=>whnf);refine lpe eNd hn rfl ?_;(conv=>whnf)
 first|refine ast (by kernel_rfl) ?_|refine asf (by kernel_rfl) ?_|skip
 (conv=>whnf);refine aidxn (i:=0) hv0 ?_;(conv=>whnf);refine asplit ?_ ?_<;>intro h1<;>conv=>whnf
 ·rw[show(vk==6)=false by simpa using h1]at hF
  cases hF;refine amc [1000000000,1000000001] 300 (hfl S.c S.g wType) ?_;(conv=>whnf);refine⟨.inl rfl,⟨s6,s6,s6,s6,s6,s6,s6,s6,s6,s6,s6,s6,s6,s6,s6,s6,trivial⟩⟩
 rw[show(vk==6)=true by simpa using h1]at hF;dsimp only at hF;refine lpe eNd hn rfl ?_;(conv=>whnf)
 first|refine ast (by kernel_rfl) ?_|refine asf (by kernel_rfl) ?_|skip
 conv=>whnf
 first|refine ast (by kernel_rfl) ?_|refine asf (by kernel_rfl) ?_|skip
 conv=>whnf
 first|refine ast (by kernel_rfl) ?_|refine asf (by kernel_rfl) ?_|skip
 conv=>whnf
 first|refine ast (by kernel_rfl) ?_|refine asf (by kernel_rfl) ?_|skip
 conv=>whnf
 first|refine ast (by kernel_rfl) ?_|refine asf (by kernel_rfl) ?_|skip
 (conv=>whnf);cases hF;refine aidxn (i:=0) hv0 ?_;(conv=>whnf);refine amc [1000000000,1000000001] 300 (htl S.c S.g (oNum 6 vn)) ?_;(conv=>whnf);refine⟨.inl rfl,⟨s6,s6,s6,s6,s6,s6,s6,s6,s6,s6,s6,s6,s6,s6,s6,s6,trivial⟩⟩
theorem leave_19 (K:Ks) (S:Ss) (zr:Sto Rn) (k:Nat) (r:Rn) (kn:Nat) (n:Nd) (f2:Option Nat) (f4:Int) (f5:Bool) (v:Vl) (xs:List Vl) (R:Ss×Rn) (hr:tlk k zr.2=some r) (hn:tlk kn K.n.2=some n) (hk:n.kind=19) (hF:wantF S r v 4 (some (failS S r v.text))=some R):
 AMem Tryz.prog 250 [.p (.adr rS k),.p (.agg (cFr ⟨some kn,f2,.lst (v::xs),f4,f5⟩))] (hA K S zr) (.tup []) (hA K R.1 (zr.1,tset k R.2 zr.2)):=by
 have hfl:=fun(c:Sto Cl) (g:Sto (List Nat)) w=>fail_spec zr ({ S with c:=c,g:=g }:Ss).o k w r hr;have htl:=fun(c:Sto Cl) (g:Sto (List Nat)) o=>tell_spec zr ({ S with c:=c,g:=g }:Ss).o k o r hr;have hV:=leaveV_spec S.c S.g xs;have hsl:(((eVs (v::xs)).take (((eVs (v::xs)).length:Int)).toNat).drop (1:Int).toNat)=eVs xs:=by rw[Int.toNat_natCast,List.take_length];rfl
 unfold wantF at hF;obtain⟨n1,n2,n3,n4,n5,n6,n7,n8,n9⟩:=n;dsimp only at hk;subst hk;obtain⟨vk,vn,vt,va,vc⟩:=v;dsimp only[Vl.kind,Vl.num,Vl.text]at hF;have hv0:(eVs (.mk vk vn vt va vc::xs))[0]?=some (.agg [.i .i64 vk,.i .i64 vn,.s vt,.sl 5 (eVs va),eP cS vc]):=by rw[eVs_map];simp[eV]
 unfold hA hNd cFr at *;dsimp only[eFV]at *;refine AMem.intro (tyOf_ok Tryz.prog) hmix Tryz.func250 rfl (by rfl) (by kernel_rfl) (by show 2≤_;decide) rfl ?_;(conv=>whnf);refine aneed (.inl (by kernel_rfl)) ?_;(conv=>whnf);refine lpe eNd hn rfl ?_;(conv=>whnf)
 first|refine ast (by kernel_rfl) ?_|refine asf (by kernel_rfl) ?_|skip
 conv=>whnf
 first|refine ast (by kernel_rfl) ?_|refine asf (by kernel_rfl) ?_|skip
 (conv=>whnf);refine lpe eNd hn rfl ?_;(conv=>whnf)
 first|refine ast (by kernel_rfl) ?_|refine asf (by kernel_rfl) ?_|skip
 (conv=>whnf);refine aidxn (i:=0) hv0 ?_;(conv=>whnf);refine asplit ?_ ?_<;>intro h1<;>conv=>whnf
 ·rw[show(vk==4)=false by simpa using h1]at hF
  cases hF;refine amc [1000000000,1000000001] 300 (hfl S.c S.g wType) ?_;(conv=>whnf);refine⟨.inl rfl,⟨s6,s6,s6,s6,s6,s6,s6,s6,s6,s6,s6,s6,s6,s6,s6,s6,trivial⟩⟩
 rw[show(vk==4)=true by simpa using h1]at hF;dsimp only at hF;refine lpe eNd hn rfl ?_;(conv=>whnf)
 first|refine ast (by kernel_rfl) ?_|refine asf (by kernel_rfl) ?_|skip
 conv=>whnf
 first|refine ast (by kernel_rfl) ?_|refine asf (by kernel_rfl) ?_|skip
 conv=>whnf
 first|refine ast (by kernel_rfl) ?_|refine asf (by kernel_rfl) ?_|skip
 conv=>whnf
 first|refine ast (by kernel_rfl) ?_|refine asf (by kernel_rfl) ?_|skip
 conv=>whnf
 first|refine ast (by kernel_rfl) ?_|refine asf (by kernel_rfl) ?_|skip
 (conv=>whnf);cases hF;refine aidxn (i:=0) hv0 ?_;(conv=>whnf);refine amc [1000000000,1000000001] 300 (hfl S.c S.g vt) ?_;(conv=>whnf);refine⟨.inl rfl,⟨s6,s6,s6,s6,s6,s6,s6,s6,s6,s6,s6,s6,s6,s6,s6,s6,trivial⟩⟩
theorem leave_15 (K:Ks) (S:Ss) (zr:Sto Rn) (k:Nat) (r:Rn) (kn:Nat) (n:Nd) (f2:Option Nat) (f4:Int) (f5:Bool) (v:Vl) (xs:List Vl) (R:Ss×Rn) (hr:tlk k zr.2=some r) (hn:tlk kn K.n.2=some n) (hk:n.kind=15) (hF:wantF S r v 6 (sendF S r v xs)=some R):
 AMem Tryz.prog 250 [.p (.adr rS k),.p (.agg (cFr ⟨some kn,f2,.lst (v::xs),f4,f5⟩))] (hA K S zr) (.tup []) (hA K R.1 (zr.1,tset k R.2 zr.2)):=by
 have hfl:=fun(c:Sto Cl) (g:Sto (List Nat)) w=>fail_spec zr ({ S with c:=c,g:=g }:Ss).o k w r hr;have htl:=fun(c:Sto Cl) (g:Sto (List Nat)) o=>tell_spec zr ({ S with c:=c,g:=g }:Ss).o k o r hr;have hV:=leaveV_spec S.c S.g xs;have hsl:(((eVs (v::xs)).take (((eVs (v::xs)).length:Int)).toNat).drop (1:Int).toNat)=eVs xs:=by rw[Int.toNat_natCast,List.take_length];rfl
 unfold wantF at hF;obtain⟨n1,n2,n3,n4,n5,n6,n7,n8,n9⟩:=n;dsimp only at hk;subst hk;obtain⟨vk,vn,vt,va,vc⟩:=v;dsimp only[Vl.kind,Vl.num,Vl.text]at hF;have hv0:(eVs (.mk vk vn vt va vc::xs))[0]?=some (.agg [.i .i64 vk,.i .i64 vn,.s vt,.sl 5 (eVs va),eP cS vc]):=by rw[eVs_map];simp[eV]
 unfold hA hNd cFr at *;dsimp only[eFV]at *;refine AMem.intro (tyOf_ok Tryz.prog) hmix Tryz.func250 rfl (by rfl) (by kernel_rfl) (by show 2≤_;decide) rfl ?_;(conv=>whnf);refine aneed (.inl (by kernel_rfl)) ?_;(conv=>whnf);refine lpe eNd hn rfl ?_;(conv=>whnf)
 first|refine ast (by kernel_rfl) ?_|refine asf (by kernel_rfl) ?_|skip
 conv=>whnf
 first|refine ast (by kernel_rfl) ?_|refine asf (by kernel_rfl) ?_|skip
 (conv=>whnf);refine lpe eNd hn rfl ?_;(conv=>whnf)
 first|refine ast (by kernel_rfl) ?_|refine asf (by kernel_rfl) ?_|skip
 (conv=>whnf);refine aidxn (i:=0) hv0 ?_;(conv=>whnf);refine asplit ?_ ?_<;>intro h1<;>conv=>whnf
 ·rw[show(vk==6)=false by simpa using h1]at hF
  cases hF;refine amc [1000000000,1000000001] 300 (hfl S.c S.g wType) ?_;(conv=>whnf);refine⟨.inl rfl,⟨s6,s6,s6,s6,s6,s6,s6,s6,s6,s6,s6,s6,s6,s6,s6,s6,trivial⟩⟩
 rw[show(vk==6)=true by simpa using h1]at hF;dsimp only at hF;refine lpe eNd hn rfl ?_;(conv=>whnf)
 first|refine ast (by kernel_rfl) ?_|refine asf (by kernel_rfl) ?_|skip
 conv=>whnf
 first|refine ast (by kernel_rfl) ?_|refine asf (by kernel_rfl) ?_|skip
 conv=>whnf
 first|refine ast (by kernel_rfl) ?_|refine asf (by kernel_rfl) ?_|skip
 conv=>whnf
 first|refine ast (by kernel_rfl) ?_|refine asf (by kernel_rfl) ?_|skip
 conv=>whnf
 first|refine ast (by kernel_rfl) ?_|refine asf (by kernel_rfl) ?_|skip
 (conv=>whnf);unfold sendF at hF;refine aneed ⟨by decide,by rw[eVs_map];simp;omega,Int.le_refl _⟩ ?_;(conv=>whnf)
 cases hQ:leaveV S.c S.g xs with
 |none=>rw[hQ]at hF;cases hF
 |some Q=>
  rw[hQ]at hF;have hV:=hV Q hQ;rw[←hsl]at hV;obtain⟨⟨os,why⟩,c2,g2⟩:=Q;dsimp only at hF hV;refine amc [1000000008,1000000015] 300 hV ?_;(conv=>whnf)
  cases hw:eqB why ⟨#[]⟩ with
  |false=>
   rw[hw]at hF;cases hF;refine ast (by rw[show(why.toList==ByteArray.toList ⟨#[]⟩)=false from hw];rfl) ?_;(conv=>whnf);refine amc [1000000000,1000000001] 300 (hfl c2 g2 why) ?_;(conv=>whnf);refine⟨.inl rfl,⟨s6,s6,s6,s6,s6,s6,s6,s6,s6,s6,s6,s6,s6,s6,s6,s6,trivial⟩⟩
  |true=>
   rw[hw]at hF;refine asf (by rw[show(why.toList==ByteArray.toList ⟨#[]⟩)=true from hw];rfl) ?_;(conv=>whnf)
   cases os with
   |nil=>cases hF
   |cons o os=>
    obtain⟨ok,on,ot,oa⟩:=o;cases hF;refine aidxn (i:=0) hv0 ?_;(conv=>whnf);refine aidxn (i:=0) (x:=.agg [.i .i64 ok,.i .i64 on,.s ot,.sl 4 (eOs oa)]) (by rw[eOs,eO];rfl) ?_;(conv=>whnf);refine amc [1000000000,1000000001] 300 (htl c2 g2 ⟨3,vn,⟨#[]⟩,ok,on,ot,oa,[]⟩) ?_;(conv=>whnf);refine aneed (.inl (by kernel_rfl)) ?_;(conv=>whnf);refine⟨.inl rfl,⟨s6,s6,s6,s6,s6,s6,s6,s6,s6,s6,s6,s6,s6,s6,s6,s6,trivial⟩⟩
theorem leave_spec (K:Ks) (S:Ss) (zr:Sto Rn) (k:Nat) (r:Rn) (f:Fr) (xs:List Vl) (R:Ss×Rn) (hr:tlk k zr.2=some r) (hf:f.vals=.lst xs) (hF:leaveF K S r f xs=some R):
 AMem Tryz.prog 250 [.p (.adr rS k),.p (.agg (cFr f))] (hA K S zr) (.tup []) (hA K R.1 (zr.1,tset k R.2 zr.2)):=by
 obtain⟨f1,f2,f3,f4,f5⟩:=f;dsimp only at hf;subst hf;unfold leaveF nodeF at hF;dsimp only at hF
 cases f1 with
 |none=>cases hF
 |some kn=>
  dsimp only at hF
  cases hn:tlk kn K.n.2 with
  |none=>rw[hn]at hF;cases hF
  |some n=>
   rw[hn]at hF;dsimp only at hF
   cases h14:n.kind==14 with
   |true=>
    rw[h14]at hF;have hsp:=spawn_spec K S zr k r kn n f2 f4 f5 xs R hr hn hF;have hk:n.kind=14:=by simpa using h14
    obtain⟨n1,n2,n3,n4,n5,n6,n7,n8,n9⟩:=n;dsimp only at hk;subst hk;unfold hA hNd cFr at *;dsimp only[eFV]at *;refine AMem.intro (tyOf_ok Tryz.prog) hmix Tryz.func250 rfl (by rfl) (by kernel_rfl) (by show 2≤_;decide) rfl ?_;(conv=>whnf);refine aneed (.inl (by kernel_rfl)) ?_;(conv=>whnf);refine lpe eNd hn rfl ?_;(conv=>whnf)
    first|refine ast (by kernel_rfl) ?_|refine asf (by kernel_rfl) ?_|skip
    conv=>whnf
    first|refine ast (by kernel_rfl) ?_|refine asf (by kernel_rfl) ?_|skip
    (conv=>whnf);refine lpe eNd hn rfl ?_;(conv=>whnf)
    first|refine ast (by kernel_rfl) ?_|refine asf (by kernel_rfl) ?_|skip
    (conv=>whnf);refine amc iA 300 hsp ?_;(conv=>whnf);refine⟨.inl rfl,⟨s6,s6,s6,s6,s6,s6,s6,s6,s6,s6,s6,s6,s6,s6,s6,s6,trivial⟩⟩
   |false=>
    rw[h14]at hF
    cases xs with
    |nil=>cases hF
    |cons v xs=>
     dsimp only at hF
     cases h20:n.kind==20 with
     |true=>rw[h20]at hF;exact leave_20 K S zr k r kn n f2 f4 f5 v xs R hr hn (by simpa using h20) hF
     |false=>
     rw[h20]at hF;dsimp only at hF
     cases h24:n.kind==24 with
     |true=>rw[h24]at hF;exact leave_24 K S zr k r kn n f2 f4 f5 v xs R hr hn (by simpa using h24) hF
     |false=>
     rw[h24]at hF;dsimp only at hF
     cases h25:n.kind==25 with
     |true=>rw[h25]at hF;exact leave_25 K S zr k r kn n f2 f4 f5 v xs R hr hn (by simpa using h25) hF
     |false=>
     rw[h25]at hF;dsimp only at hF
     cases h19:n.kind==19 with
     |true=>rw[h19]at hF;exact leave_19 K S zr k r kn n f2 f4 f5 v xs R hr hn (by simpa using h19) hF
     |false=>
     rw[h19]at hF;dsimp only at hF
     cases h15:n.kind==15 with
     |true=>rw[h15]at hF;exact leave_15 K S zr k r kn n f2 f4 f5 v xs R hr hn (by simpa using h15) hF
     |false=>
     rw[h15]at hF;dsimp only at hF;cases hF
end MN
