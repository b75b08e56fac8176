/- Contracts, and the law, for every input. No conditions. -/
import Derived.Test.YtdmopjgjhfhfdaaGreatDoorAMRngD
import Derived.Test.YtdmopjgjhfhfdaaGreatDoorChecked
import Derived.Test.YtdmopjgjhfhfdaaGreatDoorMN5
set_option linter.all false
section
open Go Go.AM Go.Proofs TK
set_option maxRecDepth 100000
namespace MN
abbrev gS:Nat:=26
def pX (k:Nat):PV×PV:=(.bH cS k,.b true)
def eG (s:List Nat):List PV:=(s.map pX).map Ho
def IQ (z:bf (List Nat)):br:=.store 344 true gS z.1 0 (cC eG z.2)
theorem Eu (c:Nat):∀s:List Nat,j9 (.bH cS c) (s.map pX)=match bB s c with|true=>some (.b true)|false=>none
 | []=>rfl
 |a::r=>by
  show(match Nat.beq c a with|true=>some (PV.b true)|false=>j9 (.bH cS c) (r.map pX))=match (match Nat.beq a c with|true=>true|false=>bB r c) with|true=>some (PV.b true)|false=>none
  rw[Eu c r,show Nat.beq c a=Nat.beq a c from by
   cases h:Nat.beq a c with
   |true=>rw[Nat.eq_of_beq_eq_true h];exact Nat.beq_refl _
   |false=>cases h2:Nat.beq c a with
    |false=>rfl
    |true=>rw[Nat.eq_of_beq_eq_true h2,Nat.beq_refl]at h;cases h]
  cases Nat.beq a c<;>rfl
theorem Nu (c:Nat) (s:List Nat):pV (.bH cS c) (.b false) (s.map pX)=(.b (bB s c),bB s c):=by
 rw[pV,Eu]
 cases bB s c<;>rfl
def iO (M:List (Nat×Cl)) (s:List Nat):Prop:=∀k∈s,(aK k M).isSome=true
theorem JM {M:List (Nat×Cl)} {s:List Nat} (h:iO M s):BE cS (cC zG M) (s.map pX):=by
 intro x hx;obtain⟨k,hk,rfl⟩:=List.mem_map.1 hx;obtain⟨c,hc⟩:=Option.isSome_iff_exists.1 (h k hk);exact⟨k,rfl,by rw[aq (enc:=zG) hc];rfl⟩
theorem qB {α:Type} {k:Nat} {x:α}:∀{M:List (Nat×α)},aK k M=some x→aW k x M=M
 | [],h=>by cases h
 |(a,y)::r,h=>by
  rw[aK]at h;rw[aW]
  cases hb:Nat.beq a k with
  |true=>rw[hb]at h;cases h;rfl
  |false=>rw[hb]at h;dsimp only at h ⊢;rw[qB h]
def Df (M:List (Nat×Cl)) (v:Vl) (s:List Nat):Option (Bool×List Nat):=match v with
 |.mk k _ _ _ c=>match k==8 with
  |false=>some (true,s)
  |true=>match c with
   |none=>none
   |some a=>match aK a M with
    |none=>none
    |some x=>match x.gone||bB s a with
     |true=>some (false,s)
     |false=>some (true,s++[a])
def gO (f:Vl→List Nat→Option (Bool×List Nat)):List Vl→List Nat→Option (Bool×List Nat)
 | [],s=>some (true,s)
 |v::r,s=>match f v s with
  |none=>none
  |some (false,s')=>some (false,s')
  |some (true,s')=>gO f r s'
def fQ (M:List (Nat×Cl)):Nat→Vl→List Nat→Option (Bool×List Nat)
 |0,_,_=>none
 |n+1,v,s=>match Df M v s with
  |none=>none
  |some (false,s')=>some (false,s')
  |some (true,s')=>match eu M v with
   |none=>none
   |some l=>match decide (l.length≤2000000) with
    |false=>none
    |true=>gO (fQ M n) l s'
theorem vl {M:List (Nat×Cl)} {v:Vl} {s s':List Nat} {b:Bool} (ha:iO M s) (h:Df M v s=some (b,s')):iO M s':=by
 obtain⟨k,n,t,l,c⟩:=v;unfold Df at h;dsimp only at h;split at h
 ·cases h;exact ha
 ·split at h
  ·cases h
  ·split at h
   ·cases h
   ·rename_i a x hx
    split at h
    ·cases h;exact ha
    ·cases h
     intro k hk;rcases List.mem_append.1 hk with hk|hk
     ·exact ha k hk
     ·simp at hk;subst hk;rw[hx];rfl
theorem pI {M:List (Nat×Cl)} {f:Vl→List Nat→Option (Bool×List Nat)} (hf:∀v s b s',iO M s→f v s=some (b,s')→iO M s'):∀(l:List Vl) (s:List Nat) (b:Bool) (s':List Nat),iO M s→gO f l s=some (b,s')→iO M s'
 | [],s,b,s',ha,h=>by cases h;exact ha
 |v::r,s,b,s',ha,h=>by
  rw[gO]at h;split at h
  ·cases h
  ·rename_i s1 h1;cases h;exact hf _ _ _ _ ha h1
  ·rename_i s1 h1;exact pI hf r _ _ _ (hf _ _ _ _ ha h1) h
theorem l9 {M:List (Nat×Cl)}:∀(n:Nat) (v:Vl) (s:List Nat) (b:Bool) (s':List Nat),iO M s→fQ M n v s=some (b,s')→iO M s'
 |0,_,_,_,_,_,h=>by cases h
 |n+1,v,s,b,s',ha,h=>by
  rw[fQ]at h;split at h
  ·cases h
  ·rename_i s1 h1;cases h;exact vl ha h1
  ·rename_i s1 h1
   split at h
   ·cases h
   ·split at h
    ·cases h
    ·exact pI (l9 n) _ _ _ _ (vl ha h1) h
theorem vL (z:bf Cl) (q:Nat):∀(n:Nat) (v:Vl) (y:bf (List Nat)) (s:List Nat) (b:Bool) (s':List Nat),iO z.2 s→aK q y.2=some s→fQ z.2 n v s=some (b,s')→
 av Tryz.prog 253 [.p (eV v),.p (.amp gS q)] [(1000000000,kH z),(1000000001,IQ y)] (.p (.b b)) [(1000000000,kH z),(1000000001,IQ (y.1,aW q s' y.2))]
 |0,_,_,_,_,_,_,_,hF=>by cases hF
 |n+1,v,y,s,b,s',ha,hy,hF=>by
  have ih:=vL z q n;have hal:=l9 (M:=z.2) n;obtain⟨vk,vn,vt,va,vc⟩:=v;have hp:=nF z (.mk vk vn vt va vc);unfold fQ Df at hF;rw[eV]at hp ⊢;unfold kH IQ at *;dsimp only at hF;refine av.intro (ah Tryz.prog) aC Tryz.func253 rfl (by rfl) (by kernel_rfl) (by show 2≤_;decide) rfl ?_;(conv=>whnf);refine aj ?_ ?_<;>intro h1<;>conv=>whnf
  ·rw[show(vk==8)=true from h1]at hF
   cases vc with
   |none=>cases hF
   |some c=>
    dsimp only at hF
    cases hc:aK c z.2 with
    |none=>rw[hc]at hF;cases hF
    |some x=>
     rw[hc]at hF;obtain⟨g,⟨wk,wn,wt,wa,wc⟩⟩:=x;dsimp only at hF;(conv=>whnf);refine ag ⟨rfl,by decide,.inl rfl⟩ ?_;refine⟨_,aq hc,?_⟩;refine au (i:=0) rfl ?_;(conv=>whnf)
     cases g with
     |true=>
      rw[Bool.true_or]at hF;cases hF;(conv=>whnf);rw[qB hy];exact⟨.inl rfl,⟨s6,s6,trivial⟩⟩
     |false=>
      rw[Bool.false_or]at hF;(conv=>whnf);refine ag ⟨rfl,rfl,rfl,by decide,by rw[aq (enc:=zG) hc];rfl⟩ ?_;refine⟨s.map pX,aq (enc:=eG) hy,?_⟩;refine ag (JM ha) ?_;refine⟨_,_,Nu c s,?_⟩
      cases hm:bB s c with
      |true=>
       rw[hm]at hF;cases hF;(conv=>whnf);rw[qB hy];exact⟨.inl rfl,⟨s6,s6,trivial⟩⟩
      |false=>
       rw[hm]at hF;dsimp only at hF;(conv=>whnf);refine ag ⟨rfl,rfl,rfl,by decide,by rw[aq (enc:=zG) hc];rfl⟩ ?_;refine⟨s.map pX,aq (enc:=eG) hy,?_⟩;refine ag ⟨JM ha,by rw[Eu,hm]⟩ ?_
       have hset:sset q ((s.map pX++[(PV.bH cS c,PV.b true)]).map Ho) (cC eG y.2)=cC eG (aW q (s++[c]) y.2):=by
        rw[←bM eG q (s++[c])];unfold eG;rw[List.map_append (l₁:=s)];rfl
       rw[hset]
       have ha2:iO z.2 (s++[c]):=by
        intro k hk;rcases List.mem_append.1 hk with hk|hk
        ·exact ha k hk
        ·simp at hk;subst hk;rw[hc];rfl
       cases hpf:eu z.2 (.mk vk vn vt va (some c)) with
       |none=>rw[hpf]at hF;cases hF
       |some l=>
        rw[hpf]at hF;dsimp only at hF
        cases hll:decide (l.length≤2000000) with
        |false=>rw[hll]at hF;cases hF
        |true=>
         rw[hll]at hF;dsimp only at hF;have hll:=of_decide_eq_true hll;have hp:=hp l hpf;(conv=>whnf);refine bh [1000000000] 300 hp ?_;(conv=>whnf);refine bL (ah _) aC (by kernel_rfl) l.length [1,25,26,27] [1000000000,1000000001] (fun j (_:List Nat×List (Nat×List Nat))=>[.p (.amp gS q),.p (.sl 5 (bu l)),.p (.i .i64 (bu l).length),.p (.i .i64 (ix j))]) (fun _ P=>[.store 212 true cS z.1 6 (cC zG z.2),.store 344 true gS y.1 0 (cC eG P.2)]) (fun j P=>iO z.2 P.1∧aK q P.2=some P.1∧(∀t,aW q t P.2=aW q t y.2)∧gO (fQ z.2 n) (l.drop j) P.1=some (b,s')) ((s++[c]),aW q (s++[c]) y.2) ⟨rfl,rfl,rfl,rfl⟩ ⟨ha2,cx hy,fun t=>cT _ _ _ _,hF⟩ ?_;rintro j ⟨s1,y1⟩ hj ⟨qa,qt,qe,hQ⟩;dsimp only at qa qt qe hQ;have hlen:(bu l).length=l.length:=by rw[aR];simp
         (conv=>whnf);refine aj ?_ ?_<;>intro h1<;>conv=>whnf
         ·have hj1:=cm h1 (by rw[hlen]) hj (by omega)
          obtain⟨u,hu⟩:∃u,l[j]?=some u:=⟨_,List.getElem?_eq_getElem hj1⟩
          rw[drop_cons hu,gO]at hQ
          cases hm:fQ z.2 n u s1 with
          |none=>rw[hm]at hQ;cases hQ
          |some w=>
           obtain⟨b1,s2⟩:=w;rw[hm]at hQ;have hi:=ih u (y.1,y1) s1 b1 s2 qa qt hm;have qa2:=hal u s1 b1 s2 qa hm;obtain⟨uk,un,ut,ua,uc⟩:=u;rw[eV]at hi;dsimp only at hi;refine bO (x:=.agg [.i .i64 uk,.i .i64 un,.s ut,.sl 5 (bu ua),eP cS uc]) (by rw[aR];simp[hu,eV]) (by omega) ?_;(conv=>whnf);refine bh [1000000000,1000000001] 400 hi ?_;(conv=>whnf)
           cases b1 with
           |false=>
            cases hQ;(conv=>whnf);rw[qe];exact⟨.inl rfl,⟨s6,s6,trivial⟩⟩
           |true=>
            (conv=>whnf);exact⟨hj1,(s2,aW q s2 y1),⟨rfl,rfl,rfl,rfl⟩,qa2,cx qt,fun t=>by show aW q t (aW q s2 y1)=_;rw[cT];exact qe t,hQ⟩
         ·have h1:=cq h1 (by rw[hlen]) hj (by omega)
          subst h1;rw[List.drop_length]at hQ;cases hQ;rw[←qe,qB qt];exact⟨.inl rfl,⟨s6,s6,trivial⟩⟩
  ·rw[show(vk==8)=false from h1]at hF
   dsimp only at hF
   cases hpf:eu z.2 (.mk vk vn vt va vc) with
   |none=>rw[hpf]at hF;cases hF
   |some l=>
    rw[hpf]at hF;dsimp only at hF
    cases hll:decide (l.length≤2000000) with
    |false=>rw[hll]at hF;cases hF
    |true=>
     rw[hll]at hF;dsimp only at hF;have hll:=of_decide_eq_true hll;have hp:=hp l hpf;(conv=>whnf);refine bh [1000000000] 300 hp ?_;(conv=>whnf);refine bL (ah _) aC (by kernel_rfl) l.length [1,25,26,27] [1000000000,1000000001] (fun j (_:List Nat×List (Nat×List Nat))=>[.p (.amp gS q),.p (.sl 5 (bu l)),.p (.i .i64 (bu l).length),.p (.i .i64 (ix j))]) (fun _ P=>[.store 212 true cS z.1 6 (cC zG z.2),.store 344 true gS y.1 0 (cC eG P.2)]) (fun j P=>iO z.2 P.1∧aK q P.2=some P.1∧(∀t,aW q t P.2=aW q t y.2)∧gO (fQ z.2 n) (l.drop j) P.1=some (b,s')) (s,y.2) ⟨rfl,rfl,rfl,rfl⟩ ⟨ha,hy,fun _=>rfl,hF⟩ ?_;rintro j ⟨s1,y1⟩ hj ⟨qa,qt,qe,hQ⟩;dsimp only at qa qt qe hQ;have hlen:(bu l).length=l.length:=by rw[aR];simp
     (conv=>whnf);refine aj ?_ ?_<;>intro h1<;>conv=>whnf
     ·have hj1:=cm h1 (by rw[hlen]) hj (by omega)
      obtain⟨u,hu⟩:∃u,l[j]?=some u:=⟨_,List.getElem?_eq_getElem hj1⟩
      rw[drop_cons hu,gO]at hQ
      cases hm:fQ z.2 n u s1 with
      |none=>rw[hm]at hQ;cases hQ
      |some w=>
       obtain⟨b1,s2⟩:=w;rw[hm]at hQ;have hi:=ih u (y.1,y1) s1 b1 s2 qa qt hm;have qa2:=hal u s1 b1 s2 qa hm;obtain⟨uk,un,ut,ua,uc⟩:=u;rw[eV]at hi;dsimp only at hi;refine bO (x:=.agg [.i .i64 uk,.i .i64 un,.s ut,.sl 5 (bu ua),eP cS uc]) (by rw[aR];simp[hu,eV]) (by omega) ?_;(conv=>whnf);refine bh [1000000000,1000000001] 400 hi ?_;(conv=>whnf)
       cases b1 with
       |false=>
        cases hQ;(conv=>whnf);rw[qe];exact⟨.inl rfl,⟨s6,s6,trivial⟩⟩
       |true=>
        (conv=>whnf);exact⟨hj1,(s2,aW q s2 y1),⟨rfl,rfl,rfl,rfl⟩,qa2,cx qt,fun t=>by show aW q t (aW q s2 y1)=_;rw[cT];exact qe t,hQ⟩
     ·have h1:=cq h1 (by rw[hlen]) hj (by omega)
      subst h1;rw[List.drop_length]at hQ;cases hQ;rw[←qe,qB qt];exact⟨.inl rfl,⟨s6,s6,trivial⟩⟩
end MN
end
section
open Go Go.AM Go.Proofs TK
set_option maxRecDepth 100000
namespace MN
noncomputable def QB:Nat→Option TI:=hint (jQ Tryz.prog) 344 [1000007]
theorem JX:bz Tryz.prog QB:=(ah Tryz.prog).hint _ _
def EK:List (Nat×Cl)→Nat
 | []=>0
 |(_,c)::r=>max (lE c.val) (EK r)
def Jj (M:List (Nat×Cl)) (l:List Vl):Nat:=(max (EK M) (qT l))*(M.length+1)
def NW (k:Nat):Bool→AV
 |true=>.cA [.p (.amp gS k),.p (.b true)]
 |false=>.cA [.c (.map none),.p (.b false)]
theorem xO (z:bf Cl) (y:bf (List Nat)) (l:List Vl) (b:Bool) (s':List Nat) (N:Nat) (hl:l.length≤2000000) (hF:gO (fQ z.2 N) l []=some (b,s')):
 av Tryz.prog 240 [.p (.sl 5 (bu l))] [(1000000000,kH z),(1000000001,IQ y)] (NW y.1 b) [(1000000000,kH z),(1000000001,IQ (y.1+1,(y.1,s')::y.2))]:=by
 have hg:=vL z y.1 N;have hal:=l9 (M:=z.2) N;have hlen:(bu l).length=l.length:=by rw[aR];simp
 have hb:Nat.beq y.1 y.1=true:=Nat.beq_refl _;unfold kH IQ at *;refine av.intro JX aC Tryz.func240 rfl (by rfl) (by kernel_rfl) (by show 1≤_;decide) (by cases b<;>rfl) ?_;(conv=>whnf);refine bL JX aC (by kernel_rfl) l.length [4,8,9,10] [1000000000,1000000001] (fun j (_:List Nat×List (Nat×List Nat))=>[.p (.amp gS y.1),.p (.sl 5 (bu l)),.p (.i .i64 (bu l).length),.p (.i .i64 (ix j))]) (fun _ P=>[.store 212 true cS z.1 6 (cC zG z.2),.store 344 true gS (y.1+1) 0 (cC eG P.2)]) (fun j P=>iO z.2 P.1∧aK y.1 P.2=some P.1∧(∀t,aW y.1 t P.2=(y.1,t)::y.2)∧gO (fQ z.2 N) (l.drop j) P.1=some (b,s')) ([],(y.1,[])::y.2) ⟨rfl,rfl,rfl,rfl⟩ ⟨(fun _ h=>by cases h),(by simp only[aK,hb]),(fun t=>by simp only[aW,hb]),hF⟩ ?_;rintro j ⟨s1,y1⟩ hj ⟨qa,qt,qe,hQ⟩;dsimp only at qa qt qe hQ;(conv=>whnf);refine aj ?_ ?_<;>intro h1<;>conv=>whnf
 ·have hj1:=cm h1 (by rw[hlen]) hj (by omega)
  obtain⟨u,hu⟩:∃u,l[j]?=some u:=⟨_,List.getElem?_eq_getElem hj1⟩
  rw[drop_cons hu,gO]at hQ
  cases hm:fQ z.2 N u s1 with
  |none=>rw[hm]at hQ;cases hQ
  |some w=>
   obtain⟨b1,s2⟩:=w;rw[hm]at hQ;have hi:=hg u (y.1+1,y1) s1 b1 s2 qa qt hm;have qa2:=hal u s1 b1 s2 qa hm;obtain⟨uk,un,ut,ua,uc⟩:=u;rw[eV]at hi;dsimp only at hi;refine bO (x:=.agg [.i .i64 uk,.i .i64 un,.s ut,.sl 5 (bu ua),eP cS uc]) (by rw[aR];simp[hu,eV]) (by omega) ?_;(conv=>whnf);refine bh [1000000000,1000000001] 400 hi ?_;(conv=>whnf)
   cases b1 with
   |false=>
    cases hQ;(conv=>whnf);rw[qe];exact⟨.inl rfl,⟨s6,s6,trivial⟩⟩
   |true=>
    (conv=>whnf);exact⟨hj1,(s2,aW y.1 s2 y1),⟨rfl,rfl,rfl,rfl⟩,qa2,cx qt,fun t=>by show aW y.1 t (aW y.1 s2 y1)=_;rw[cT];exact qe t,hQ⟩
 ·have h1:=cq h1 (by rw[hlen]) hj (by omega)
  subst h1;rw[List.drop_length]at hQ;cases hQ;rw[←qe,qB qt];exact⟨.inl rfl,⟨s6,s6,trivial⟩⟩
theorem Ck (o:Ov):∀l:List Ov,gK (l++[o])=gK l++[eO o]
 | []=>rfl
 |a::r=>by rw[List.cons_append,gK,gK,Ck o r,List.cons_append]
theorem kE:∀l:List Ov,(gK l).length=l.length
 | []=>rfl
 |a::r=>by rw[gK,List.length_cons,kE r,List.length_cons]
def nw (f:Vl→Option Ov):List Vl→Option (List Ov)
 | []=>some []
 |v::r=>match f v with
  |none=>none
  |some o=>match nw f r with
   |none=>none
   |some l=>some (o::l)
def qG (M:List (Nat×Cl)):Nat→Vl→Option Ov
 |0,_=>none
 |n+1,v=>match eu M v with
  |none=>none
  |some l=>match decide (l.length≤2000000) with
   |false=>none
   |true=>match nw (qG M n) l with
    |none=>none
    |some os=>match v with
     |.mk k m t _ _=>some (.mk k m t os)
theorem Ae {f:Vl→Option Ov} {a os:List Ov} {v:Vl} {r:List Vl} (h:(nw f (v::r)).map (a++·)=some os):∃o,f v=some o∧(nw f r).map ((a++[o])++·)=some os:=by
 rw[nw]at h
 cases hf:f v with
 |none=>rw[hf]at h;cases h
 |some o=>
  rw[hf]at h;refine⟨o,rfl,?_⟩
  cases hr:nw f r with
  |none=>rw[hr]at h;cases h
  |some l=>rw[hr]at h;cases h;simp
theorem yM (z:bf Cl):∀(n:Nat) (v:Vl) (o:Ov),qG z.2 n v=some o→
 av Tryz.prog 241 [.p (eV v)] [(1000000000,kH z)] (.p (eO o)) [(1000000000,kH z)]
 |0,_,_,hF=>by cases hF
 |n+1,v,o,hF=>by
  have ih:=yM z n;obtain⟨vk,vn,vt,va,vc⟩:=v;have hp:=nF z (.mk vk vn vt va vc);unfold qG at hF
  cases hpf:eu z.2 (.mk vk vn vt va vc) with
  |none=>rw[hpf]at hF;cases hF
  |some l=>
   rw[hpf]at hF;dsimp only at hF
   cases hll:decide (l.length≤2000000) with
   |false=>rw[hll]at hF;cases hF
   |true=>
    rw[hll]at hF;dsimp only at hF;have hll:=of_decide_eq_true hll
    cases hv:nw (qG z.2 n) l with
    |none=>rw[hv]at hF;cases hF
    |some os=>
     rw[hv]at hF;cases hF;have hp:=hp l hpf;have hlen:(bu l).length=l.length:=by rw[aR];simp
     rw[eV]at hp ⊢;rw[eO];unfold kH at *;refine av.intro (ah Tryz.prog) aC Tryz.func241 rfl (by rfl) (by kernel_rfl) (by show 1≤_;decide) rfl ?_;(conv=>whnf);refine bh [1000000000] 300 hp ?_;(conv=>whnf);refine O5 3 (.cells [.p (.i .i64 vk),.p (.i .i64 vn),.p (.s vt),.so 4 []]) rfl ⟨.inl rfl,.inl rfl,.inl rfl,.inr (.inr ⟨rfl,3,rfl⟩),trivial⟩ ?_;refine bL (ah _) aC (by kernel_rfl) l.length [2,3,14,15,16] [2,3,1000000000] (fun j (_:List Ov)=>[.ptr 2 0,.ptr 3 0,.p (.sl 5 (bu l)),.p (.i .i64 (bu l).length),.p (.i .i64 (ix j))]) (fun _ s=>[.cells [.p (.i .i64 0),.p (.i .i64 0),.p (.s ⟨#[]⟩),.cu],.cells [.p (.i .i64 vk),.p (.i .i64 vn),.p (.s vt),.so 4 (gK s)],.store 212 true cS z.1 6 (cC zG z.2)]) (fun j s=>s.length≤j∧(nw (qG z.2 n) (l.drop j)).map (s++·)=some os) [] ⟨rfl,rfl,rfl,rfl⟩ ⟨Nat.le_refl _,by rw[List.drop_zero,hv];rfl⟩ ?_;rintro j s hj ⟨hs,hQ⟩;(conv=>whnf);refine aj ?_ ?_<;>intro h1<;>conv=>whnf
     ·have hj1:=cm h1 (by rw[hlen]) hj (by omega)
      obtain⟨u,hu⟩:∃u,l[j]?=some u:=⟨_,List.getElem?_eq_getElem hj1⟩
      rw[drop_cons hu]at hQ;obtain⟨o,ho,hQ⟩:=Ae hQ;have hi:=ih u o ho;obtain⟨uk,un,ut,ua,uc⟩:=u;obtain⟨ok,on,ot,oa⟩:=o;rw[eV,eO]at hi;refine bO (x:=.agg [.i .i64 uk,.i .i64 un,.s ut,.sl 5 (bu ua),eP cS uc]) (by rw[aR];simp[hu,eV]) (by omega) ?_;(conv=>whnf);refine bh [1000000000] 400 hi ?_;(conv=>whnf);refine ag (Nat.le_trans (Nat.mul_le_mul_right _ (show _≤2000001 by rw[kE];simp only[List.length_cons,List.length_nil];omega)) (Nat.le_of_ble_eq_true (by kernel_rfl))) ?_;(conv=>whnf);refine ag (.inl (by kernel_rfl)) ?_;(conv=>whnf);refine⟨hj1,s++[.mk ok on ot oa],?_,by rw[List.length_append];show s.length+1≤j+1;omega,hQ⟩;rw[Ck,eO];exact⟨rfl,rfl,rfl,rfl⟩
     ·have h1:=cq h1 (by rw[hlen]) hj (by omega)
      subst h1;rw[List.drop_length]at hQ;have hQ:s=os:=by simpa[nw] using hQ
      subst hQ;exact⟨.inl rfl,⟨s6,trivial⟩⟩
theorem D8 (z:bf Cl) (n:Nat) (l:List Vl) (os:List Ov) (hl:l.length≤2000000) (hF:nw (qG z.2 n) l=some os):
 av Tryz.prog 235 [.p (.sl 5 (bu l))] [(1000000000,kH z)] (.p (.sl 4 (gK os))) [(1000000000,kH z)]:=by
 have hg:=yM z n;have hlen:(bu l).length=l.length:=by rw[aR];simp
 unfold kH at *;refine av.intro (ah Tryz.prog) aC Tryz.func235 rfl (by rfl) (by kernel_rfl) (by show 1≤_;decide) rfl ?_;(conv=>whnf);refine nW 3 3 rfl ?_;refine bL (ah _) aC (by kernel_rfl) l.length [3,6,7,8] [1000000000] (fun j (s:List Ov)=>[.so 4 (gK s),.p (.sl 5 (bu l)),.p (.i .i64 (bu l).length),.p (.i .i64 (ix j))]) (fun _ _=>[.store 212 true cS z.1 6 (cC zG z.2)]) (fun j s=>s.length≤j∧(nw (qG z.2 n) (l.drop j)).map (s++·)=some os) [] ⟨rfl,rfl,rfl,rfl⟩ ⟨Nat.le_refl _,by rw[List.drop_zero,hF];rfl⟩ ?_;rintro j s hj ⟨hs,hQ⟩;(conv=>whnf);refine aj ?_ ?_<;>intro h1<;>conv=>whnf
 ·have hj1:=cm h1 (by rw[hlen]) hj (by omega)
  obtain⟨u,hu⟩:∃u,l[j]?=some u:=⟨_,List.getElem?_eq_getElem hj1⟩
  rw[drop_cons hu]at hQ;obtain⟨o,ho,hQ⟩:=Ae hQ;have hi:=hg u o ho;obtain⟨uk,un,ut,ua,uc⟩:=u;obtain⟨ok,on,ot,oa⟩:=o;rw[eV,eO]at hi;refine bO (x:=.agg [.i .i64 uk,.i .i64 un,.s ut,.sl 5 (bu ua),eP cS uc]) (by rw[aR];simp[hu,eV]) (by omega) ?_;(conv=>whnf);refine bh [1000000000] 400 hi ?_;(conv=>whnf);refine ag (Nat.le_trans (Nat.mul_le_mul_right _ (show _≤2000001 by rw[kE];simp only[List.length_cons,List.length_nil];omega)) (Nat.le_of_ble_eq_true (by kernel_rfl))) ?_;(conv=>whnf);refine⟨hj1,s++[.mk ok on ot oa],?_,by rw[List.length_append];show s.length+1≤j+1;omega,hQ⟩;rw[Ck,eO];exact⟨rfl,rfl,rfl,rfl⟩
 ·have h1:=cq h1 (by rw[hlen]) hj (by omega)
  subst h1;rw[List.drop_length]at hQ;have hQ:s=os:=by simpa[nw] using hQ
  subst hQ;exact⟨.inr rfl,⟨s6,trivial⟩⟩
end MN
end
section
open Go Go.AM Go.Proofs TK
set_option maxRecDepth 100000
namespace MN
def eJ (s:List Nat):List (Nat×Cl)→List (Nat×Cl)
 | []=>[]
 |(k,c)::r=>(k,match bB s k with|true=>⟨true,zV⟩|false=>c)::eJ s r
theorem Da:∀M:List (Nat×Cl),eJ [] M=M
 | []=>rfl
 |(k,c)::r=>by rw[eJ,Da r];rfl
theorem xm {s t:List Nat} (h:∀k,bB s k=bB t k):∀M:List (Nat×Cl),eJ s M=eJ t M
 | []=>rfl
 |(k,c)::r=>by rw[eJ,eJ,xm h r,h k]
theorem oZ:∀(l:List Nat) (i:Nat),bB l i=true↔i∈l
 | [],i=>by simp[bB]
 |x::r,i=>by
  rw[bB,List.mem_cons]
  cases hb:Nat.beq x i with
  |true=>simp[Nat.eq_of_beq_eq_true hb]
  |false=>
   have:i≠x:=fun e=>by rw[e,Nat.beq_refl]at hb;cases hb
   simp[this,oZ r i]
theorem oK (s:List Nat) (a k:Nat):bB (s++[a]) k=(bB s k||Nat.beq a k):=by
 induction s with
 |nil=>simp only[List.nil_append,bB,Bool.false_or];cases Nat.beq a k<;>rfl
 |cons x r ih=>
  rw[List.cons_append,bB,bB]
  cases Nat.beq x k with
  |true=>rfl
  |false=>exact ih
theorem Ed {s:List Nat} {a:Nat}:∀{M:List (Nat×Cl)},(M.map (·.1)).Nodup→aW a ⟨true,zV⟩ (eJ s M)=eJ (s++[a]) M
 | [],_=>rfl
 |(k,c)::r,h=>by
  rw[List.map_cons,List.nodup_cons]at h;rw[eJ,eJ,aW,oK]
  cases hb:Nat.beq k a with
  |true=>
   have hk:=Nat.eq_of_beq_eq_true hb;subst hk;rw[Nat.beq_refl,Bool.or_true]
   have:∀{r:List (Nat×Cl)},k∉r.map (·.1)→eJ (s++[k]) r=eJ s r:=by
    intro r
    induction r with
    |nil=>intro _;rfl
    |cons p q ih=>
     obtain⟨k2,c2⟩:=p;intro hn;simp only[List.map_cons,List.mem_cons,not_or]at hn;rw[eJ,eJ,ih hn.2,oK,beq_false hn.1,Bool.or_false]
   rw[this h.1]
  |false=>
   have:Nat.beq a k=false:=beq_false fun e=>by rw[e,Nat.beq_refl]at hb;cases hb
   rw[this,Bool.or_false];dsimp only;rw[Ed h.2]
theorem Cp {s:List Nat} {a:Nat}:∀{M:List (Nat×Cl)},(aK a M).isSome=true→∃x,aK a (eJ s M)=some x
 | [],h=>by cases h
 |(k,c)::r,h=>by
  rw[aK]at h;rw[eJ,aK]
  cases hb:Nat.beq k a with
  |true=>exact⟨_,rfl⟩
  |false=>rw[hb]at h;exact Cp h
def K3 (s:List Nat) (i:Nat):Nat:=(s[i]?).getD 0
def ij:List (Nat×Cl)→Bool
 | []=>true
 |(k,_)::r=>!(r.any fun p=>Nat.beq p.1 k)&&ij r
theorem vz:∀{M:List (Nat×Cl)},ij M=true→(M.map (·.1)).Nodup
 | [],_=>List.nodup_nil
 |(k,c)::r,h=>by
  rw[ij,Bool.and_eq_true]at h;rw[List.map_cons,List.nodup_cons];refine⟨fun hm=>?_,vz h.2⟩;obtain⟨p,hp,e⟩:=List.mem_map.1 hm;have:(r.any fun p=>Nat.beq p.1 k)=true:=List.any_eq_true.2 ⟨p,hp,by rw[e];exact Nat.beq_refl _⟩;rw[this]at h;exact absurd h.1 (by decide)
def oc (z:bf Cl) (y:bf (List Nat)) (l:List Vl):Option ((List Ov×ByteArray)×bf Cl×bf (List Nat)):=match Nat.ble l.length 2000000&&ij z.2 with
 |false=>none
 |true=>match gO (fQ z.2 (Jj z.2 l)) l [] with
  |none=>none
  |some (false,s)=>some (([],JT),z,(y.1+1,(y.1,s)::y.2))
  |some (true,s)=>match lP z.2 l with
   |none=>none
   |some true=>some (([],kQ),z,(y.1+1,(y.1,s)::y.2))
   |some false=>match nw (qG z.2 (Jj z.2 l)) l with
    |none=>none
    |some os=>some ((os,⟨#[]⟩),(z.1,eJ s z.2),(y.1+1,(y.1,s)::y.2))
theorem iy (z:bf Cl) (y:bf (List Nat)) (l:List Vl) (R:(List Ov×ByteArray)×bf Cl×bf (List Nat)) (hF:oc z y l=some R):
 av Tryz.prog 260 [.p (.sl 5 (bu l))] [(1000000000,kH z),(1000000001,IQ y)] (.cA [.p (.sl 4 (gK R.1.1)),.p (.s R.1.2)]) [(1000000000,kH R.2.1),(1000000001,IQ R.2.2)]:=by
 unfold oc at hF
 cases hbl:Nat.ble l.length 2000000&&ij z.2 with
 |false=>rw[hbl]at hF;cases hF
 |true=>
  rw[hbl]at hF;rw[Bool.and_eq_true]at hbl;have hl:=Nat.le_of_ble_eq_true hbl.1;have hnd:=vz hbl.2;dsimp only at hF
  cases hg:gO (fQ z.2 (Jj z.2 l)) l [] with
  |none=>rw[hg]at hF;cases hF
  |some q=>
   obtain⟨b,s⟩:=q;rw[hg]at hF;have c1:=xO z y l b s _ hl hg;have hal:=pI (l9 _) l [] b s (fun _ h=>by cases h) hg;have c2:=fun b=>mE z l b hl;have c3:=fun os=>D8 z (Jj z.2 l) l os hl;unfold kH IQ at *
   cases b with
   |false=>
    cases hF;dsimp only[NW]at c1;refine av.intro (ah Tryz.prog) aC Tryz.func260 rfl (by rfl) (by kernel_rfl) (by show 1≤_;decide) rfl ?_;(conv=>whnf);refine bh [1000000000,1000000001] 300 c1 ?_;(conv=>whnf);exact⟨.inl rfl,⟨s6,s6,trivial⟩⟩
   |true=>
    dsimp only[NW]at c1 hF
    cases hA:lP z.2 l with
    |none=>rw[hA]at hF;cases hF
    |some bl=>
     rw[hA]at hF;have c2:=c2 bl hA
     cases bl with
     |true=>
      cases hF;refine av.intro (ah Tryz.prog) aC Tryz.func260 rfl (by rfl) (by kernel_rfl) (by show 1≤_;decide) rfl ?_;(conv=>whnf);refine bh [1000000000,1000000001] 300 c1 ?_;(conv=>whnf);refine bh [1000000000] 300 c2 ?_;(conv=>whnf);exact⟨.inl rfl,⟨s6,s6,trivial⟩⟩
     |false=>
      dsimp only at hF
      cases hV:nw (qG z.2 (Jj z.2 l)) l with
      |none=>rw[hV]at hF;cases hF
      |some os=>
       rw[hV]at hF;cases hF;have c3:=c3 os hV;have hty:aK y.1 ((y.1,s)::y.2)=some s:=by rw[aK,Nat.beq_refl]
       refine av.pZ (ah Tryz.prog) Tryz.func260 rfl (by rfl) (by show 1≤_;decide) rfl ?_;refine iN.cut (ah Tryz.prog) aC (by kernel_rfl) 4 [2,4] [1000000000,1000000001] (fun _:Unit=>[.p (.sl 4 (gK os)),.p (.amp gS y.1)]) (fun _=>[.store 212 true cS z.1 6 (cC zG z.2),.store 344 true gS (y.1+1) 0 (cC eG ((y.1,s)::y.2))]) (fun _=>True) ?_ ?_
       ·conv=>whnf
        refine bh [1000000000,1000000001] 300 c1 ?_;(conv=>whnf);refine bh [1000000000] 300 c2 ?_;(conv=>whnf);refine bh [1000000000] 300 c3 ?_;(conv=>whnf);exact⟨(),⟨rfl,rfl,rfl,rfl⟩,trivial⟩
       ·rintro _ -
        refine iN.seq ?_
        refine iN.Qv (ah Tryz.prog) aC (kt:=137) (et:=4) (σ:=List (Nat×Cl)) (N:=s.length) (TT:=344) (sp:=gS) (q:=y.1) 1 1000000001 [2] [1000000000,1000000001] (fun _ _=>[.p (.sl 4 (gK os))])
         (fun _ M=>[.store 212 true cS z.1 6 (cC zG M),.store 344 true gS (y.1+1) 0 (cC eG ((y.1,s)::y.2))]) (fun seen M=>M=eJ (seen.map (K3 s)) z.2∧seen.Nodup∧∀i∈seen,i<s.length) (fun _ _=>s.map pX)
         ⟨rfl,rfl,rfl,rfl,rfl⟩ (by kernel_rfl) (by kernel_rfl) (fun _ _ _ _ h=>h) ⟨rfl,rfl,rfl⟩ ⟨rfl,rfl,rfl⟩ ⟨rfl,rfl,rfl⟩ (by decide) (by decide) ⟨rfl,rfl,rfl,rfl⟩ (by kernel_rfl) (by kernel_rfl) (by decide) ?_ ?_ ?_ ?_
        ·conv=>whnf
         exact⟨rfl,z.2,Tl.of ⟨rfl,rfl,rfl,rfl⟩,(Da _).symm,List.nodup_nil,by simp⟩
        ·rintro seen M ⟨rfl,_,_⟩
         exact⟨⟨_,_,rfl,aq (enc:=eG) hty⟩,by simp⟩
        ·rintro seen M ⟨rfl,h1,h2⟩ h3
         have hall:∀k,bB (seen.map (K3 s)) k=bB s k:=by
          intro k;rw[Bool.eq_iff_iff,oZ,oZ,List.mem_map]
          constructor
          ·rintro⟨i,hi,rfl⟩
           have:=h2 i hi;rw[K3,List.getElem?_eq_getElem this];exact List.getElem_mem this
          ·intro hk
           obtain⟨i,hi,e⟩:=List.getElem_of_mem hk;refine⟨i,?_,by rw[K3,List.getElem?_eq_getElem hi];exact e⟩;refine Classical.byContradiction fun hc=>?_;have:=pW s.length (i::seen) (List.nodup_cons.2 ⟨hc,h1⟩) (fun a ha=>by rcases List.mem_cons.1 ha with rfl|ha;exact hi;exact h2 a ha);rw[List.length_cons]at this;omega
         rw[xm hall];refine iN.fin (ah Tryz.prog) aC (by kernel_rfl) ?_;(conv=>whnf);exact⟨.inl rfl,⟨s6,s6,trivial⟩⟩
        ·rintro B seen M j x ⟨rfl,h1,h2⟩ hj hjs hlt hx
         obtain⟨a,ha⟩:∃a,s[j]?=some a:=⟨_,List.getElem?_eq_getElem hj⟩
         have hx':x=pX a:=by
          rw[List.getElem?_map,ha]at hx;cases hx;rfl
         subst hx';obtain⟨c,hc⟩:=Cp (s:=seen.map (K3 s)) (hal a (List.mem_of_getElem? ha));have hat:K3 s j=a:=by rw[K3,ha];rfl
         obtain⟨cg,⟨wk,wn,wt,wa,wc⟩⟩:=c;unfold pX;(conv=>whnf);refine ag ⟨rfl,by decide,.inl rfl⟩ ?_;refine⟨_,aq hc,?_⟩;refine au (i:=0) rfl ?_;(conv=>whnf);refine ag ⟨rfl,by decide,.inl rfl⟩ ?_;refine⟨_,aJ (aq hc),?_⟩;refine au (i:=0) rfl ?_;(conv=>whnf);rw[bV];refine⟨eJ ((seen++[j]).map (K3 s)) z.2,Tl.of ⟨?_,rfl,rfl,rfl⟩,rfl,?_,?_⟩
         ·show [some (br.store _ _ _ _ _ (sset a (zG ⟨true,zV⟩) (cC zG _))),_]=_
          rw[bM,Ed hnd,show eJ (seen.map (K3 s)++[a]) z.2=eJ ((seen++[j]).map (K3 s)) z.2 from by rw[List.map_append,List.map_cons,hat];rfl];rfl
         ·rw[List.nodup_append]
          exact⟨h1,by simp,fun i hi k hk=>by simp at hk;subst hk;exact fun e=>hjs (e ▸ hi)⟩
         ·intro i hi
          rcases List.mem_append.1 hi with hi|hi
          ·exact h2 i hi
          ·simp at hi;subst hi;exact hj
end MN
end
section
open Go Go.AM Go.Proofs
namespace TR
theorem aC:Tryz.prog.follows .mixedOrders=true:=by kernel_rfl
inductive Ty where
 |mk (kind:Int) (name:ByteArray) (args:List Ty)
inductive Pt where
 |mk (kind num:Int) (text:ByteArray) (args:List Pt)
mutual
inductive Ex where
 |mk (kind num:Int) (text:ByteArray) (names:List ByteArray) (types:List Ty) (args:List Ex) (dU:List eU) (pos:Int)
inductive eU where
 |mk (pat:Pt) (body:Ex)
end
def Ty.kind:Ty→Int|.mk k _ _=>k
def Ty.args:Ty→List Ty|.mk _ _ a=>a
def Pt.kind:Pt→Int|.mk k _ _ _=>k
def Pt.text:Pt→ByteArray|.mk _ _ t _=>t
def Pt.args:Pt→List Pt|.mk _ _ _ a=>a
def Ex.kind:Ex→Int|.mk k _ _ _ _ _ _ _=>k
def Ex.num:Ex→Int|.mk _ n _ _ _ _ _ _=>n
def Ex.text:Ex→ByteArray|.mk _ _ t _ _ _ _ _=>t
def Ex.names:Ex→List ByteArray|.mk _ _ _ n _ _ _ _=>n
def Ex.args:Ex→List Ex|.mk _ _ _ _ _ a _ _=>a
def Ex.dU:Ex→List eU|.mk _ _ _ _ _ _ a _=>a
def eU.pat:eU→Pt|.mk p _=>p
def eU.body:eU→Ex|.mk _ e=>e
theorem Ty.ind {Q:Ty→Prop} (h:∀k n xs,(∀a∈xs,Q a)→Q (.mk k n xs)) (t:Ty):Q t:=
 Ty.rec (motive_1:=Q) (motive_2:=fun l=>∀a∈l,Q a) (fun k n xs ih=>h k n xs ih) (fun _ hb=>by cases hb) (fun a r h1 h2 b hb=>by
  rcases List.mem_cons.1 hb with hb|hb
  ·rw[hb];exact h1
  ·exact h2 b hb) t
theorem Pt.ind {Q:Pt→Prop} (h:∀k n t xs,(∀a∈xs,Q a)→Q (.mk k n t xs)) (t:Pt):Q t:=
 Pt.rec (motive_1:=Q) (motive_2:=fun l=>∀a∈l,Q a) (fun k n t xs ih=>h k n t xs ih) (fun _ hb=>by cases hb) (fun a r h1 h2 b hb=>by
  rcases List.mem_cons.1 hb with hb|hb
  ·rw[hb];exact h1
  ·exact h2 b hb) t
theorem Ex.ind {Q:Ex→Prop} (h:∀k n t ns ts xs ms p,(∀a∈xs,Q a)→(∀a∈ms,Q a.body)→Q (.mk k n t ns ts xs ms p)) (e:Ex):Q e:=
 Ex.rec (motive_1:=Q) (motive_2:=fun a=>Q a.body) (motive_3:=fun l=>∀a∈l,Q a) (motive_4:=fun l=>∀a∈l,Q a.body) (fun k n t ns ts xs ms p h1 h2=>h k n t ns ts xs ms p h1 h2) (fun _ _ h=>h)
  (fun _ hb=>by cases hb) (fun a r h1 h2 b hb=>by
    rcases List.mem_cons.1 hb with hb|hb
    ·rw[hb];exact h1
    ·exact h2 b hb)
  (fun _ hb=>by cases hb) (fun a r h1 h2 b hb=>by
    rcases List.mem_cons.1 hb with hb|hb
    ·rw[hb];exact h1
    ·exact h2 b hb) e
def bE (s:ByteArray):PV:=.s s
mutual
def eT:Ty→PV
 |.mk k n xs=>.agg [.i .i64 k,.s n,.sl 3 (lK xs)]
def lK:List Ty→List PV
 | []=>[]
 |t::r=>eT t::lK r
end
mutual
def eP:Pt→PV
 |.mk k n t xs=>.agg [.i .i64 k,.i .i64 n,.s t,.sl 4 (oA xs)]
def oA:List Pt→List PV
 | []=>[]
 |t::r=>eP t::oA r
end
mutual
def eE:Ex→PV
 |.mk k n t ns ts xs ms p=>.agg [.i .i64 k,.i .i64 n,.s t,.sl 1 (ns.map bE),.sl 3 (lK ts),.sl 8 (eg xs),.sl 12 (jF ms),.i .i64 p]
def eA:eU→PV
 |.mk p e=>.agg ((eP p).cells++(eE e).cells)
def eg:List Ex→List PV
 | []=>[]
 |t::r=>eE t::eg r
def jF:List eU→List PV
 | []=>[]
 |t::r=>eA t::jF r
end
theorem kC (l:List Ty):lK l=l.map eT:=by
 induction l with
 |nil=>rfl
 |cons t r ih=>simp[lK,ih]
theorem mq (l:List Pt):oA l=l.map eP:=by
 induction l with
 |nil=>rfl
 |cons t r ih=>simp[oA,ih]
theorem iI (l:List Ex):eg l=l.map eE:=by
 induction l with
 |nil=>rfl
 |cons t r ih=>simp[eg,ih]
theorem kq (l:List eU):jF l=l.map eA:=by
 induction l with
 |nil=>rfl
 |cons t r ih=>simp[jF,ih]
theorem tC {l:List Pt} {k:Nat} {t:Pt} (h:l[k]?=some t):(oA l)[k]?=some (eP t):=by rw[mq];simp[h]
theorem nQ {l:List Ex} {k:Nat} {t:Ex} (h:l[k]?=some t):(eg l)[k]?=some (eE t):=by rw[iI];simp[h]
theorem s9 {l:List eU} {k:Nat} {t:eU} (h:l[k]?=some t):(jF l)[k]?=some (eA t):=by rw[kq];simp[h]
theorem GM (l:List Ty):(lK l).length=l.length:=by rw[kC];simp
theorem gT (l:List Pt):(oA l).length=l.length:=by rw[mq];simp
theorem cz (l:List Ex):(eg l).length=l.length:=by rw[iI];simp
theorem iJ (l:List eU):(jF l).length=l.length:=by rw[kq];simp
theorem G4 (l r:List Pt):oA (l++r)=oA l++oA r:=by simp[mq]
theorem tS (l r:List Ex):eg (l++r)=eg l++eg r:=by simp[iI]
theorem Lp (l r:List eU):jF (l++r)=jF l++jF r:=by simp[kq]
theorem tO {x:PV}:∀{l:List PV},x∈l→PV.wt x≤PV.cH l
 | [],h=>by cases h
 |y::r,h=>by
  simp only[PV.cH];rcases List.mem_cons.1 h with rfl|h
  ·omega
  ·have:=tO h;omega
theorem qo:∀{l:List PV},(∀x∈l,1≤PV.wt x)→l.length≤PV.cH l
 | [],_=>by simp[PV.cH]
 |y::r,h=>by
  have h1:=h y (by simp);have h2:=qo (l:=r) (fun x hx=>h x (by simp[hx]));simp only[PV.cH,List.length_cons];omega
theorem x9 (x:PV):PV.cH x.cells=PV.wt x:=by cases x<;>simp[PV.cells,PV.cH,PV.wt]
def wT (t:Ty):Nat:=PV.wt (eT t)
def wP (t:Pt):Nat:=PV.wt (eP t)
def wE (t:Ex):Nat:=PV.wt (eE t)
def wA (t:eU):Nat:=PV.wt (eA t)
theorem OR (k:Int) (n:ByteArray) (xs:List Ty):wT (.mk k n xs)=n.size+3+PV.cH (lK xs):=by simp[wT,eT,PV.wt,PV.cH];omega
theorem zj (k m:Int) (n:ByteArray) (xs:List Pt):wP (.mk k m n xs)=n.size+4+PV.cH (oA xs):=by simp[wP,eP,PV.wt,PV.cH];omega
theorem sU (k n:Int) (t:ByteArray) (ns:List ByteArray) (ts:List Ty) (xs:List Ex) (ms:List eU) (p:Int):wE (.mk k n t ns ts xs ms p)=t.size+8+PV.cH (ns.map bE)+PV.cH (lK ts)+PV.cH (eg xs)+PV.cH (jF ms):=by
 simp[wE,eE,PV.wt,PV.cH];omega
theorem CT (p:Pt) (e:Ex):wA (.mk p e)=wP p+wE e:=by simp[wA,eA,PV.wt,PV.dY,x9,wP,wE]
theorem Fq (e:Ex):8≤wE e:=by cases e;rw[sU];omega
theorem Fi (e:Pt):4≤wP e:=by cases e;rw[zj];omega
theorem MX (e:Ty):3≤wT e:=by cases e;rw[OR];omega
theorem Nf (e:eU):12≤wA e:=by obtain⟨p,e⟩:=e;rw[CT];have:=Fi p;have:=Fq e;omega
theorem Me {x:Ex} {l:List Ex} (h:x∈l):wE x≤PV.cH (eg l):=by rw[iI];exact tO (List.mem_map.2 ⟨x,h,rfl⟩)
theorem GY {x:Pt} {l:List Pt} (h:x∈l):wP x≤PV.cH (oA l):=by rw[mq];exact tO (List.mem_map.2 ⟨x,h,rfl⟩)
theorem Ls {x:eU} {l:List eU} (h:x∈l):wA x≤PV.cH (jF l):=by rw[kq];exact tO (List.mem_map.2 ⟨x,h,rfl⟩)
theorem Ln (l:List Ex):l.length≤PV.cH (eg l):=by
 have:=qo (l:=eg l) (fun x hx=>by rw[iI]at hx;obtain⟨y,_,rfl⟩:=List.mem_map.1 hx;have:=Fq y;unfold wE at this;omega)
 rwa [cz]at this
theorem GV (l:List Pt):l.length≤PV.cH (oA l):=by
 have:=qo (l:=oA l) (fun x hx=>by rw[mq]at hx;obtain⟨y,_,rfl⟩:=List.mem_map.1 hx;have:=Fi y;unfold wP at this;omega)
 rwa [gT]at this
theorem LK (l:List Ty):l.length≤PV.cH (lK l):=by
 have:=qo (l:=lK l) (fun x hx=>by rw[kC]at hx;obtain⟨y,_,rfl⟩:=List.mem_map.1 hx;have:=MX y;unfold wT at this;omega)
 rwa [GM]at this
theorem Lr (l:List eU):l.length≤PV.cH (jF l):=by
 have:=qo (l:=jF l) (fun x hx=>by rw[kq]at hx;obtain⟨y,_,rfl⟩:=List.mem_map.1 hx;have:=Nf y;unfold wA at this;omega)
 rwa [iJ]at this
theorem Lm (l:List ByteArray):l.length≤PV.cH (l.map bE):=by
 have:=qo (l:=l.map bE) (fun x hx=>by obtain⟨y,_,rfl⟩:=List.mem_map.1 hx;simp[bE,PV.wt]);simpa using this
theorem mg {k n:Int} {t:ByteArray} {ns:List ByteArray} {ts:List Ty} {xs:List Ex} {ms:List eU} {p:Int} {a:Ex} (h:a∈xs):wE a+8≤wE (.mk k n t ns ts xs ms p):=by have:=Me h;rw[sU];omega
theorem Lo {k n:Int} {t:ByteArray} {ns:List ByteArray} {ts:List Ty} {xs:List Ex} {ms:List eU} {p:Int} {a:eU} (h:a∈ms):wA a+8≤wE (.mk k n t ns ts xs ms p):=by have:=Ls h;rw[sU];omega
theorem Bu (a:eU):wP a.pat+wE a.body=wA a:=by obtain⟨p,e⟩:=a;rw[CT];rfl
theorem nV {k n:Int} {t:ByteArray} {ns:List ByteArray} {ts:List Ty} {xs:List Ex} {ms:List eU} {p:Int} {a:eU} (h:a∈ms):wP a.pat+wE a.body+8≤wE (.mk k n t ns ts xs ms p):=by rw[Bu];exact Lo h
theorem Cj {k n:Int} {t:ByteArray} {xs:List Pt} {a:Pt} (h:a∈xs):wP a+4≤wP (.mk k n t xs):=by have:=GY h;rw[zj];omega
theorem ue (k n:Int) (t:ByteArray) (ns:List ByteArray) (ts:List Ty) (xs:List Ex) (ms:List eU) (p:Int):t.size+ns.length+ts.length+xs.length+ms.length+8≤wE (.mk k n t ns ts xs ms p):=by
 have:=Lm ns;have:=LK ts;have:=Ln xs;have:=Lr ms;rw[sU];omega
theorem Ga (k n:Int) (t:ByteArray) (xs:List Pt):t.size+xs.length+4≤wP (.mk k n t xs):=by
 have:=GV xs;rw[zj];omega
mutual
def ff:Pt→Nat
 |.mk _ _ _ xs=>1+bU xs
def bU:List Pt→Nat
 | []=>0
 |p::r=>ff p+bU r
end
mutual
def gq:Ex→List Ex
 |.mk k n t ns ts xs ms p=>.mk k n t ns ts xs ms p::(cZ xs++jo ms)
def cZ:List Ex→List Ex
 | []=>[]
 |e::r=>gq e++cZ r
def jo:List eU→List Ex
 | []=>[]
 |.mk _ e::r=>gq e++jo r
end
mutual
def pQ:Ex→Nat
 |.mk _ _ _ _ _ xs ms _=>1+(nO xs+nG ms)
def nO:List Ex→Nat
 | []=>0
 |e::r=>pQ e+nO r
def nG:List eU→Nat
 | []=>0
 |.mk p e::r=>ff p+pQ e+nG r
end
theorem lQ (l r:List Pt):bU (l++r)=bU l+bU r:=by
 induction l with
 |nil=>simp[bU]
 |cons a l ih=>simp[bU,ih];omega
theorem rV (l r:List Ex):cZ (l++r)=cZ l++cZ r:=by
 induction l with
 |nil=>simp[cZ]
 |cons a l ih=>simp[cZ,ih]
theorem EB (l:List eU):jo l=cZ (l.map eU.body):=by
 induction l with
 |nil=>rfl
 |cons a l ih=>obtain⟨p,e⟩:=a;simp[jo,cZ,ih,eU.body]
theorem nD (e:Ex):gq e=e::(cZ e.args++jo e.dU):=by obtain⟨k,n,t,ns,ts,xs,ms,p⟩:=e;rw[gq];rfl
theorem FM (p:Pt):1≤ff p:=by cases p;rw[ff];omega
mutual
theorem yH:∀(p:Pt),ff p≤wP p
 |.mk k n t xs=>by rw[ff,zj];have:=z8 xs;omega
theorem z8:∀(l:List Pt),bU l≤PV.cH (oA l)
 | []=>by simp[bU]
 |p::r=>by have h1:=yH p;have h2:=z8 r;unfold wP at h1;simp only[bU,oA,PV.cH];omega
end
mutual
theorem size_le:∀(e:Ex),pQ e≤wE e
 |.mk k n t ns ts xs ms p=>by rw[pQ,sU];have:=DO xs;have:=C5 ms;omega
theorem DO:∀(l:List Ex),nO l≤PV.cH (eg l)
 | []=>by simp[nO]
 |p::r=>by have h1:=size_le p;have h2:=DO r;unfold wE at h1;simp only[nO,eg,PV.cH];omega
theorem C5:∀(l:List eU),nG l≤PV.cH (jF l)
 | []=>by simp[nG]
 |.mk p e::r=>by
  have h1:=size_le e;have h2:=C5 r;have h3:=yH p;have h4:=CT p e;unfold wA at h4;simp only[nG,jF,PV.cH];omega
end
mutual
theorem wQ:∀(e:Ex),(gq e).length≤pQ e
 |.mk k n t ns ts xs ms p=>by rw[gq,pQ];have:=CL xs;have:=Dc ms;simp;omega
theorem CL:∀(l:List Ex),(cZ l).length≤nO l
 | []=>by simp[cZ]
 |p::r=>by have h1:=wQ p;have h2:=CL r;simp only[nO,cZ,List.length_append];omega
theorem Dc:∀(l:List eU),(jo l).length≤nG l
 | []=>by simp[jo]
 |.mk p e::r=>by have h1:=wQ e;have h2:=Dc r;simp only[nG,jo,List.length_append];omega
end
mutual
theorem tV:∀(e:Ex) {x:Ex},x∈gq e→wE x≤wE e
 |.mk k n t ns ts xs ms p,x,h=>by
  rw[gq]at h;rcases List.mem_cons.1 h with rfl|h
  ·omega
  ·rw[sU]
   rcases List.mem_append.1 h with h|h
   ·have:=AH xs h;omega
   ·have:=Ai ms h;omega
theorem AH:∀(l:List Ex) {x:Ex},x∈cZ l→wE x≤PV.cH (eg l)
 | [],x,h=>by simp[cZ]at h
 |e::r,x,h=>by
  simp only[cZ]at h;simp only[eg,PV.cH];rcases List.mem_append.1 h with h|h
  ·have:=tV e h;rw[show PV.wt (eE e)=wE e from rfl];omega
  ·have:=AH r h;omega
theorem Ai:∀(l:List eU) {x:Ex},x∈jo l→wE x≤PV.cH (jF l)
 | [],x,h=>by simp[jo]at h
 |.mk p e::r,x,h=>by
  simp only[jo]at h;simp only[jF,PV.cH];rcases List.mem_append.1 h with h|h
  ·have:=tV e h;have h4:=CT p e;rw[show PV.wt (eA (.mk p e))=wA (.mk p e) from rfl];omega
  ·have:=Ai r h;omega
end
theorem yf:∀(l:List Ex),l.length≤(cZ l).length
 | []=>by simp
 |e::r=>by have:=yf r;rw[cZ,nD];simp;omega
def dn (a:Int):Nat→Int
 |0=>a
 |k+1=>IntKind.i64.wrap (dn a k-1)
theorem Mu {a:Int} (h:-1≤a∧a≤9223372036854775807):∀{k:Nat},(k:Int)≤a+1→dn a k=a-k
 |0,_=>by simp[dn]
 |k+1,hk=>by rw[dn,Mu h (by omega),wrap64 (by omega) (by omega)];omega
theorem KZ {n k:Nat} {m:Int} (hm:m=n) (hn:n≤1048640) (hk:k≤n):dn (IntKind.i64.wrap (m-1)) k=(n:Int)-1-k:=by
 subst hm;rw[wrap64 (by omega) (by omega),Mu (by omega) (by omega)]
theorem Mp {n k:Nat} {m:Int} (h:decide (dn (IntKind.i64.wrap (m-1)) k≥0)=true) (hm:m=n) (hn:n≤1048640) (hk:k≤n):k<n:=by
 rw[KZ hm hn hk]at h;have:=of_decide_eq_true h;omega
theorem Mq {n k:Nat} {m:Int} (h:decide (dn (IntKind.i64.wrap (m-1)) k≥0)=false) (hm:m=n) (hn:n≤1048640) (hk:k≤n):k=n:=by
 rw[KZ hm hn hk]at h;have:=of_decide_eq_false h;omega
theorem Ht {α:Type} {l:List α} {k:Nat} (h:k<l.length):∃a,l.reverse[k]?=some a∧l[l.length-1-k]?=some a:=by
 refine⟨l[l.length-1-k],?_,by simp⟩;rw[List.getElem?_reverse h,List.getElem?_eq_getElem]
theorem MP {xs:List PV} {n k:Nat} {m:Int} {x:PV} {K:PV→Prop} (h:xs[n-1-k]?=some x) (hm:m=n) (hn:n≤1048640) (hk:k<n) (hK:K x):Bc xs (dn (IntKind.i64.wrap (m-1)) k) K:=by
 rw[KZ hm hn (by omega)];refine⟨x,by omega,?_,hK⟩;rw[show((n:Int)-1-k).toNat=n-1-k by omega];exact h
end TR
end
