/- Contracts, and the law, for every input. No conditions. -/
import Derived.Test.YtdmopjgjhfhfdaaGreatDoorAMRngD
import Derived.Test.YtdmopjgjhfhfdaaGreatDoorChecked
import Derived.Test.YtdmopjgjhfhfdaaGreatDoorMN5
set_option linter.all false
section
open Go Go.AM Go.Proofs TK
set_option maxRecDepth 100000
namespace MN
abbrev gS:Nat:=26
def pV (k:Nat):PV×PV:=(.bG cS k,.b true)
def eG (s:List Nat):List PV:=(s.map pV).map Gv
def Is (z:bf (List Nat)):bq:=.store 344 true gS z.1 0 (cy eG z.2)
theorem EN (c:Nat):∀s:List Nat,jS (.bG cS c) (s.map pV)=match bA s c with|true=>some (.b true)|false=>none
 | []=>rfl
 |a::r=>by
  show(match Nat.beq c a with|true=>some (PV.b true)|false=>jS (.bG cS c) (r.map pV))=match (match Nat.beq a c with|true=>true|false=>bA r c) with|true=>some (PV.b true)|false=>none
  rw[EN c r,show Nat.beq c a=Nat.beq a c from by
   cases h:Nat.beq a c with
   |true=>rw[Nat.eq_of_beq_eq_true h];exact Nat.beq_refl _
   |false=>cases h2:Nat.beq c a with
    |false=>rfl
    |true=>rw[Nat.eq_of_beq_eq_true h2,Nat.beq_refl]at h;cases h]
  cases Nat.beq a c<;>rfl
theorem MR (c:Nat) (s:List Nat):pH (.bG cS c) (.b false) (s.map pV)=(.b (bA s c),bA s c):=by
 rw[pH,EN]
 cases bA s c<;>rfl
def iO (M:List (Nat×Cl)) (s:List Nat):Prop:=∀k∈s,(aJ k M).isSome=true
theorem Jq {M:List (Nat×Cl)} {s:List Nat} (h:iO M s):AY cS (cy zM M) (s.map pV):=by
 intro x hx;obtain⟨k,hk,rfl⟩:=List.mem_map.1 hx;obtain⟨c,hc⟩:=Option.isSome_iff_exists.1 (h k hk);exact⟨k,rfl,by rw[aq (enc:=zM) hc];rfl⟩
theorem qp {α:Type} {k:Nat} {x:α}:∀{M:List (Nat×α)},aJ k M=some x→aV k x M=M
 | [],h=>by cases h
 |(a,y)::r,h=>by
  rw[aJ]at h;rw[aV]
  cases hb:Nat.beq a k with
  |true=>rw[hb]at h;cases h;rfl
  |false=>rw[hb]at h;dsimp only at h ⊢;rw[qp h]
def CV (M:List (Nat×Cl)) (v:Vl) (s:List Nat):Option (Bool×List Nat):=match v with
 |.mk k _ _ _ c=>match k==8 with
  |false=>some (true,s)
  |true=>match c with
   |none=>none
   |some a=>match aJ a M with
    |none=>none
    |some x=>match x.gone||bA s a with
     |true=>some (false,s)
     |false=>some (true,s++[a])
def gM (f:Vl→List Nat→Option (Bool×List Nat)):List Vl→List Nat→Option (Bool×List Nat)
 | [],s=>some (true,s)
 |v::r,s=>match f v s with
  |none=>none
  |some (false,s')=>some (false,s')
  |some (true,s')=>gM f r s'
def fQ (M:List (Nat×Cl)):Nat→Vl→List Nat→Option (Bool×List Nat)
 |0,_,_=>none
 |n+1,v,s=>match CV M v s with
  |none=>none
  |some (false,s')=>some (false,s')
  |some (true,s')=>match er M v with
   |none=>none
   |some l=>match decide (l.length≤2000000) with
    |false=>none
    |true=>gM (fQ M n) l s'
theorem uZ {M:List (Nat×Cl)} {v:Vl} {s s':List Nat} {b:Bool} (ha:iO M s) (h:CV M v s=some (b,s')):iO M s':=by
 obtain⟨k,n,t,l,c⟩:=v;unfold CV at h;dsimp only at h;split at h
 ·cases h;exact ha
 ·split at h
  ·cases h
  ·split at h
   ·cases h
   ·rename_i a x hx
    split at h
    ·cases h;exact ha
    ·cases h
     intro k hk;rcases List.mem_append.1 hk with hk|hk
     ·exact ha k hk
     ·simp at hk;subst hk;rw[hx];rfl
theorem pQ {M:List (Nat×Cl)} {f:Vl→List Nat→Option (Bool×List Nat)} (hf:∀v s b s',iO M s→f v s=some (b,s')→iO M s'):∀(l:List Vl) (s:List Nat) (b:Bool) (s':List Nat),iO M s→gM f l s=some (b,s')→iO M s'
 | [],s,b,s',ha,h=>by cases h;exact ha
 |v::r,s,b,s',ha,h=>by
  rw[gM]at h;split at h
  ·cases h
  ·rename_i s1 h1;cases h;exact hf _ _ _ _ ha h1
  ·rename_i s1 h1;exact pQ hf r _ _ _ (hf _ _ _ _ ha h1) h
theorem lR {M:List (Nat×Cl)}:∀(n:Nat) (v:Vl) (s:List Nat) (b:Bool) (s':List Nat),iO M s→fQ M n v s=some (b,s')→iO M s'
 |0,_,_,_,_,_,h=>by cases h
 |n+1,v,s,b,s',ha,h=>by
  rw[fQ]at h;split at h
  ·cases h
  ·rename_i s1 h1;cases h;exact uZ ha h1
  ·rename_i s1 h1
   split at h
   ·cases h
   ·split at h
    ·cases h
    ·exact pQ (lR n) _ _ _ _ (uZ ha h1) h
theorem vm (z:bf Cl) (q:Nat):∀(n:Nat) (v:Vl) (y:bf (List Nat)) (s:List Nat) (b:Bool) (s':List Nat),iO z.2 s→aJ q y.2=some s→fQ z.2 n v s=some (b,s')→
 av Tryz.prog 253 [.p (eV v),.p (.amp gS q)] [(1000000000,kJ z),(1000000001,Is y)] (.p (.b b)) [(1000000000,kJ z),(1000000001,Is (y.1,aV q s' y.2))]
 |0,_,_,_,_,_,_,_,hF=>by cases hF
 |n+1,v,y,s,b,s',ha,hy,hF=>by
  have ih:=vm z q n;have hal:=lR (M:=z.2) n;obtain⟨vk,vn,vt,va,vc⟩:=v;have hp:=nX z (.mk vk vn vt va vc);unfold fQ CV at hF;rw[eV]at hp ⊢;unfold kJ Is at *;dsimp only at hF;refine av.intro (ah Tryz.prog) az Tryz.func253 rfl (by rfl) (by kernel_rfl) (by show 2≤_;decide) rfl ?_;(conv=>whnf);refine aj ?_ ?_<;>intro h1<;>conv=>whnf
  ·rw[show(vk==8)=true from h1]at hF
   cases vc with
   |none=>cases hF
   |some c=>
    dsimp only at hF
    cases hc:aJ c z.2 with
    |none=>rw[hc]at hF;cases hF
    |some x=>
     rw[hc]at hF;obtain⟨g,⟨wk,wn,wt,wa,wc⟩⟩:=x;dsimp only at hF;(conv=>whnf);refine ag ⟨rfl,by decide,.inl rfl⟩ ?_;refine⟨_,aq hc,?_⟩;refine au (i:=0) rfl ?_;(conv=>whnf)
     cases g with
     |true=>
      rw[Bool.true_or]at hF;cases hF;(conv=>whnf);rw[qp hy];exact⟨.inl rfl,⟨s6,s6,trivial⟩⟩
     |false=>
      rw[Bool.false_or]at hF;(conv=>whnf);refine ag ⟨rfl,rfl,rfl,by decide,by rw[aq (enc:=zM) hc];rfl⟩ ?_;refine⟨s.map pV,aq (enc:=eG) hy,?_⟩;refine ag (Jq ha) ?_;refine⟨_,_,MR c s,?_⟩
      cases hm:bA s c with
      |true=>
       rw[hm]at hF;cases hF;(conv=>whnf);rw[qp hy];exact⟨.inl rfl,⟨s6,s6,trivial⟩⟩
      |false=>
       rw[hm]at hF;dsimp only at hF;(conv=>whnf);refine ag ⟨rfl,rfl,rfl,by decide,by rw[aq (enc:=zM) hc];rfl⟩ ?_;refine⟨s.map pV,aq (enc:=eG) hy,?_⟩;refine ag ⟨Jq ha,by rw[EN,hm]⟩ ?_
       have hset:sset q ((s.map pV++[(PV.bG cS c,PV.b true)]).map Gv) (cy eG y.2)=cy eG (aV q (s++[c]) y.2):=by
        rw[←bL eG q (s++[c])];unfold eG;rw[List.map_append (l₁:=s)];rfl
       rw[hset]
       have ha2:iO z.2 (s++[c]):=by
        intro k hk;rcases List.mem_append.1 hk with hk|hk
        ·exact ha k hk
        ·simp at hk;subst hk;rw[hc];rfl
       cases hpf:er z.2 (.mk vk vn vt va (some c)) with
       |none=>rw[hpf]at hF;cases hF
       |some l=>
        rw[hpf]at hF;dsimp only at hF
        cases hll:decide (l.length≤2000000) with
        |false=>rw[hll]at hF;cases hF
        |true=>
         rw[hll]at hF;dsimp only at hF;have hll:=of_decide_eq_true hll;have hp:=hp l hpf;(conv=>whnf);refine bg [1000000000] 300 hp ?_;(conv=>whnf);refine bK (ah _) az (by kernel_rfl) l.length [1,25,26,27] [1000000000,1000000001] (fun j (_:List Nat×List (Nat×List Nat))=>[.p (.amp gS q),.p (.sl 5 (br l)),.p (.i .i64 (br l).length),.p (.i .i64 (ix j))]) (fun _ P=>[.store 212 true cS z.1 6 (cy zM z.2),.store 344 true gS y.1 0 (cy eG P.2)]) (fun j P=>iO z.2 P.1∧aJ q P.2=some P.1∧(∀t,aV q t P.2=aV q t y.2)∧gM (fQ z.2 n) (l.drop j) P.1=some (b,s')) ((s++[c]),aV q (s++[c]) y.2) ⟨rfl,rfl,rfl,rfl⟩ ⟨ha2,cw hy,fun t=>cP _ _ _ _,hF⟩ ?_;rintro j ⟨s1,y1⟩ hj ⟨qa,qt,qe,hQ⟩;dsimp only at qa qt qe hQ;have hlen:(br l).length=l.length:=by rw[aQ];simp
         (conv=>whnf);refine aj ?_ ?_<;>intro h1<;>conv=>whnf
         ·have hj1:=cj h1 (by rw[hlen]) hj (by omega)
          obtain⟨u,hu⟩:∃u,l[j]?=some u:=⟨_,List.getElem?_eq_getElem hj1⟩
          rw[drop_cons hu,gM]at hQ
          cases hm:fQ z.2 n u s1 with
          |none=>rw[hm]at hQ;cases hQ
          |some w=>
           obtain⟨b1,s2⟩:=w;rw[hm]at hQ;have hi:=ih u (y.1,y1) s1 b1 s2 qa qt hm;have qa2:=hal u s1 b1 s2 qa hm;obtain⟨uk,un,ut,ua,uc⟩:=u;rw[eV]at hi;dsimp only at hi;refine bM (x:=.agg [.i .i64 uk,.i .i64 un,.s ut,.sl 5 (br ua),eP cS uc]) (by rw[aQ];simp[hu,eV]) (by omega) ?_;(conv=>whnf);refine bg [1000000000,1000000001] 400 hi ?_;(conv=>whnf)
           cases b1 with
           |false=>
            cases hQ;(conv=>whnf);rw[qe];exact⟨.inl rfl,⟨s6,s6,trivial⟩⟩
           |true=>
            (conv=>whnf);exact⟨hj1,(s2,aV q s2 y1),⟨rfl,rfl,rfl,rfl⟩,qa2,cw qt,fun t=>by show aV q t (aV q s2 y1)=_;rw[cP];exact qe t,hQ⟩
         ·have h1:=cm h1 (by rw[hlen]) hj (by omega)
          subst h1;rw[List.drop_length]at hQ;cases hQ;rw[←qe,qp qt];exact⟨.inl rfl,⟨s6,s6,trivial⟩⟩
  ·rw[show(vk==8)=false from h1]at hF
   dsimp only at hF
   cases hpf:er z.2 (.mk vk vn vt va vc) with
   |none=>rw[hpf]at hF;cases hF
   |some l=>
    rw[hpf]at hF;dsimp only at hF
    cases hll:decide (l.length≤2000000) with
    |false=>rw[hll]at hF;cases hF
    |true=>
     rw[hll]at hF;dsimp only at hF;have hll:=of_decide_eq_true hll;have hp:=hp l hpf;(conv=>whnf);refine bg [1000000000] 300 hp ?_;(conv=>whnf);refine bK (ah _) az (by kernel_rfl) l.length [1,25,26,27] [1000000000,1000000001] (fun j (_:List Nat×List (Nat×List Nat))=>[.p (.amp gS q),.p (.sl 5 (br l)),.p (.i .i64 (br l).length),.p (.i .i64 (ix j))]) (fun _ P=>[.store 212 true cS z.1 6 (cy zM z.2),.store 344 true gS y.1 0 (cy eG P.2)]) (fun j P=>iO z.2 P.1∧aJ q P.2=some P.1∧(∀t,aV q t P.2=aV q t y.2)∧gM (fQ z.2 n) (l.drop j) P.1=some (b,s')) (s,y.2) ⟨rfl,rfl,rfl,rfl⟩ ⟨ha,hy,fun _=>rfl,hF⟩ ?_;rintro j ⟨s1,y1⟩ hj ⟨qa,qt,qe,hQ⟩;dsimp only at qa qt qe hQ;have hlen:(br l).length=l.length:=by rw[aQ];simp
     (conv=>whnf);refine aj ?_ ?_<;>intro h1<;>conv=>whnf
     ·have hj1:=cj h1 (by rw[hlen]) hj (by omega)
      obtain⟨u,hu⟩:∃u,l[j]?=some u:=⟨_,List.getElem?_eq_getElem hj1⟩
      rw[drop_cons hu,gM]at hQ
      cases hm:fQ z.2 n u s1 with
      |none=>rw[hm]at hQ;cases hQ
      |some w=>
       obtain⟨b1,s2⟩:=w;rw[hm]at hQ;have hi:=ih u (y.1,y1) s1 b1 s2 qa qt hm;have qa2:=hal u s1 b1 s2 qa hm;obtain⟨uk,un,ut,ua,uc⟩:=u;rw[eV]at hi;dsimp only at hi;refine bM (x:=.agg [.i .i64 uk,.i .i64 un,.s ut,.sl 5 (br ua),eP cS uc]) (by rw[aQ];simp[hu,eV]) (by omega) ?_;(conv=>whnf);refine bg [1000000000,1000000001] 400 hi ?_;(conv=>whnf)
       cases b1 with
       |false=>
        cases hQ;(conv=>whnf);rw[qe];exact⟨.inl rfl,⟨s6,s6,trivial⟩⟩
       |true=>
        (conv=>whnf);exact⟨hj1,(s2,aV q s2 y1),⟨rfl,rfl,rfl,rfl⟩,qa2,cw qt,fun t=>by show aV q t (aV q s2 y1)=_;rw[cP];exact qe t,hQ⟩
     ·have h1:=cm h1 (by rw[hlen]) hj (by omega)
      subst h1;rw[List.drop_length]at hQ;cases hQ;rw[←qe,qp qt];exact⟨.inl rfl,⟨s6,s6,trivial⟩⟩
end MN
end
section
open Go Go.AM Go.Proofs TK
set_option maxRecDepth 100000
namespace MN
noncomputable def Qi:Nat→Option TI:=hint (jJ Tryz.prog) 344 [1000007]
theorem Ka:bw Tryz.prog Qi:=(ah Tryz.prog).hint _ _
def Fl:List (Nat×Cl)→Nat
 | []=>0
 |(_,c)::r=>max (kL c.val) (Fl r)
def JV (M:List (Nat×Cl)) (l:List Vl):Nat:=(max (Fl M) (qM l))*(M.length+1)
def Nc (k:Nat):Bool→AV
 |true=>.cz [.p (.amp gS k),.p (.b true)]
 |false=>.cz [.c (.map none),.p (.b false)]
theorem yI (z:bf Cl) (y:bf (List Nat)) (l:List Vl) (b:Bool) (s':List Nat) (N:Nat) (hl:l.length≤2000000) (hF:gM (fQ z.2 N) l []=some (b,s')):
 av Tryz.prog 240 [.p (.sl 5 (br l))] [(1000000000,kJ z),(1000000001,Is y)] (Nc y.1 b) [(1000000000,kJ z),(1000000001,Is (y.1+1,(y.1,s')::y.2))]:=by
 have hg:=vm z y.1 N;have hal:=lR (M:=z.2) N;have hlen:(br l).length=l.length:=by rw[aQ];simp
 have hb:Nat.beq y.1 y.1=true:=Nat.beq_refl _;unfold kJ Is at *;refine av.intro Ka az Tryz.func240 rfl (by rfl) (by kernel_rfl) (by show 1≤_;decide) (by cases b<;>rfl) ?_;(conv=>whnf);refine bK Ka az (by kernel_rfl) l.length [4,8,9,10] [1000000000,1000000001] (fun j (_:List Nat×List (Nat×List Nat))=>[.p (.amp gS y.1),.p (.sl 5 (br l)),.p (.i .i64 (br l).length),.p (.i .i64 (ix j))]) (fun _ P=>[.store 212 true cS z.1 6 (cy zM z.2),.store 344 true gS (y.1+1) 0 (cy eG P.2)]) (fun j P=>iO z.2 P.1∧aJ y.1 P.2=some P.1∧(∀t,aV y.1 t P.2=(y.1,t)::y.2)∧gM (fQ z.2 N) (l.drop j) P.1=some (b,s')) ([],(y.1,[])::y.2) ⟨rfl,rfl,rfl,rfl⟩ ⟨(fun _ h=>by cases h),(by simp only[aJ,hb]),(fun t=>by simp only[aV,hb]),hF⟩ ?_;rintro j ⟨s1,y1⟩ hj ⟨qa,qt,qe,hQ⟩;dsimp only at qa qt qe hQ;(conv=>whnf);refine aj ?_ ?_<;>intro h1<;>conv=>whnf
 ·have hj1:=cj h1 (by rw[hlen]) hj (by omega)
  obtain⟨u,hu⟩:∃u,l[j]?=some u:=⟨_,List.getElem?_eq_getElem hj1⟩
  rw[drop_cons hu,gM]at hQ
  cases hm:fQ z.2 N u s1 with
  |none=>rw[hm]at hQ;cases hQ
  |some w=>
   obtain⟨b1,s2⟩:=w;rw[hm]at hQ;have hi:=hg u (y.1+1,y1) s1 b1 s2 qa qt hm;have qa2:=hal u s1 b1 s2 qa hm;obtain⟨uk,un,ut,ua,uc⟩:=u;rw[eV]at hi;dsimp only at hi;refine bM (x:=.agg [.i .i64 uk,.i .i64 un,.s ut,.sl 5 (br ua),eP cS uc]) (by rw[aQ];simp[hu,eV]) (by omega) ?_;(conv=>whnf);refine bg [1000000000,1000000001] 400 hi ?_;(conv=>whnf)
   cases b1 with
   |false=>
    cases hQ;(conv=>whnf);rw[qe];exact⟨.inl rfl,⟨s6,s6,trivial⟩⟩
   |true=>
    (conv=>whnf);exact⟨hj1,(s2,aV y.1 s2 y1),⟨rfl,rfl,rfl,rfl⟩,qa2,cw qt,fun t=>by show aV y.1 t (aV y.1 s2 y1)=_;rw[cP];exact qe t,hQ⟩
 ·have h1:=cm h1 (by rw[hlen]) hj (by omega)
  subst h1;rw[List.drop_length]at hQ;cases hQ;rw[←qe,qp qt];exact⟨.inl rfl,⟨s6,s6,trivial⟩⟩
theorem BJ (o:Ov):∀l:List Ov,gH (l++[o])=gH l++[eO o]
 | []=>rfl
 |a::r=>by rw[List.cons_append,gH,gH,BJ o r,List.cons_append]
theorem kq:∀l:List Ov,(gH l).length=l.length
 | []=>rfl
 |a::r=>by rw[gH,List.length_cons,kq r,List.length_cons]
def nj (f:Vl→Option Ov):List Vl→Option (List Ov)
 | []=>some []
 |v::r=>match f v with
  |none=>none
  |some o=>match nj f r with
   |none=>none
   |some l=>some (o::l)
def qx (M:List (Nat×Cl)):Nat→Vl→Option Ov
 |0,_=>none
 |n+1,v=>match er M v with
  |none=>none
  |some l=>match decide (l.length≤2000000) with
   |false=>none
   |true=>match nj (qx M n) l with
    |none=>none
    |some os=>match v with
     |.mk k m t _ _=>some (.mk k m t os)
theorem Ad {f:Vl→Option Ov} {a os:List Ov} {v:Vl} {r:List Vl} (h:(nj f (v::r)).map (a++·)=some os):∃o,f v=some o∧(nj f r).map ((a++[o])++·)=some os:=by
 rw[nj]at h
 cases hf:f v with
 |none=>rw[hf]at h;cases h
 |some o=>
  rw[hf]at h;refine⟨o,rfl,?_⟩
  cases hr:nj f r with
  |none=>rw[hr]at h;cases h
  |some l=>rw[hr]at h;cases h;simp
theorem xN (z:bf Cl):∀(n:Nat) (v:Vl) (o:Ov),qx z.2 n v=some o→
 av Tryz.prog 241 [.p (eV v)] [(1000000000,kJ z)] (.p (eO o)) [(1000000000,kJ z)]
 |0,_,_,hF=>by cases hF
 |n+1,v,o,hF=>by
  have ih:=xN z n;obtain⟨vk,vn,vt,va,vc⟩:=v;have hp:=nX z (.mk vk vn vt va vc);unfold qx at hF
  cases hpf:er z.2 (.mk vk vn vt va vc) with
  |none=>rw[hpf]at hF;cases hF
  |some l=>
   rw[hpf]at hF;dsimp only at hF
   cases hll:decide (l.length≤2000000) with
   |false=>rw[hll]at hF;cases hF
   |true=>
    rw[hll]at hF;dsimp only at hF;have hll:=of_decide_eq_true hll
    cases hv:nj (qx z.2 n) l with
    |none=>rw[hv]at hF;cases hF
    |some os=>
     rw[hv]at hF;cases hF;have hp:=hp l hpf;have hlen:(br l).length=l.length:=by rw[aQ];simp
     rw[eV]at hp ⊢;rw[eO];unfold kJ at *;refine av.intro (ah Tryz.prog) az Tryz.func241 rfl (by rfl) (by kernel_rfl) (by show 1≤_;decide) rfl ?_;(conv=>whnf);refine bg [1000000000] 300 hp ?_;(conv=>whnf);refine Oj 3 (.cells [.p (.i .i64 vk),.p (.i .i64 vn),.p (.s vt),.so 4 []]) rfl ⟨.inl rfl,.inl rfl,.inl rfl,.inr (.inr ⟨rfl,3,rfl⟩),trivial⟩ ?_;refine bK (ah _) az (by kernel_rfl) l.length [2,3,14,15,16] [2,3,1000000000] (fun j (_:List Ov)=>[.ptr 2 0,.ptr 3 0,.p (.sl 5 (br l)),.p (.i .i64 (br l).length),.p (.i .i64 (ix j))]) (fun _ s=>[.cells [.p (.i .i64 0),.p (.i .i64 0),.p (.s ⟨#[]⟩),.cq],.cells [.p (.i .i64 vk),.p (.i .i64 vn),.p (.s vt),.so 4 (gH s)],.store 212 true cS z.1 6 (cy zM z.2)]) (fun j s=>s.length≤j∧(nj (qx z.2 n) (l.drop j)).map (s++·)=some os) [] ⟨rfl,rfl,rfl,rfl⟩ ⟨Nat.le_refl _,by rw[List.drop_zero,hv];rfl⟩ ?_;rintro j s hj ⟨hs,hQ⟩;(conv=>whnf);refine aj ?_ ?_<;>intro h1<;>conv=>whnf
     ·have hj1:=cj h1 (by rw[hlen]) hj (by omega)
      obtain⟨u,hu⟩:∃u,l[j]?=some u:=⟨_,List.getElem?_eq_getElem hj1⟩
      rw[drop_cons hu]at hQ;obtain⟨o,ho,hQ⟩:=Ad hQ;have hi:=ih u o ho;obtain⟨uk,un,ut,ua,uc⟩:=u;obtain⟨ok,on,ot,oa⟩:=o;rw[eV,eO]at hi;refine bM (x:=.agg [.i .i64 uk,.i .i64 un,.s ut,.sl 5 (br ua),eP cS uc]) (by rw[aQ];simp[hu,eV]) (by omega) ?_;(conv=>whnf);refine bg [1000000000] 400 hi ?_;(conv=>whnf);refine ag (Nat.le_trans (Nat.mul_le_mul_right _ (show _≤2000001 by rw[kq];simp only[List.length_cons,List.length_nil];omega)) (Nat.le_of_ble_eq_true (by kernel_rfl))) ?_;(conv=>whnf);refine ag (.inl (by kernel_rfl)) ?_;(conv=>whnf);refine⟨hj1,s++[.mk ok on ot oa],?_,by rw[List.length_append];show s.length+1≤j+1;omega,hQ⟩;rw[BJ,eO];exact⟨rfl,rfl,rfl,rfl⟩
     ·have h1:=cm h1 (by rw[hlen]) hj (by omega)
      subst h1;rw[List.drop_length]at hQ;have hQ:s=os:=by simpa[nj] using hQ
      subst hQ;exact⟨.inl rfl,⟨s6,trivial⟩⟩
theorem DI (z:bf Cl) (n:Nat) (l:List Vl) (os:List Ov) (hl:l.length≤2000000) (hF:nj (qx z.2 n) l=some os):
 av Tryz.prog 235 [.p (.sl 5 (br l))] [(1000000000,kJ z)] (.p (.sl 4 (gH os))) [(1000000000,kJ z)]:=by
 have hg:=xN z n;have hlen:(br l).length=l.length:=by rw[aQ];simp
 unfold kJ at *;refine av.intro (ah Tryz.prog) az Tryz.func235 rfl (by rfl) (by kernel_rfl) (by show 1≤_;decide) rfl ?_;(conv=>whnf);refine nM 3 3 rfl ?_;refine bK (ah _) az (by kernel_rfl) l.length [3,6,7,8] [1000000000] (fun j (s:List Ov)=>[.so 4 (gH s),.p (.sl 5 (br l)),.p (.i .i64 (br l).length),.p (.i .i64 (ix j))]) (fun _ _=>[.store 212 true cS z.1 6 (cy zM z.2)]) (fun j s=>s.length≤j∧(nj (qx z.2 n) (l.drop j)).map (s++·)=some os) [] ⟨rfl,rfl,rfl,rfl⟩ ⟨Nat.le_refl _,by rw[List.drop_zero,hF];rfl⟩ ?_;rintro j s hj ⟨hs,hQ⟩;(conv=>whnf);refine aj ?_ ?_<;>intro h1<;>conv=>whnf
 ·have hj1:=cj h1 (by rw[hlen]) hj (by omega)
  obtain⟨u,hu⟩:∃u,l[j]?=some u:=⟨_,List.getElem?_eq_getElem hj1⟩
  rw[drop_cons hu]at hQ;obtain⟨o,ho,hQ⟩:=Ad hQ;have hi:=hg u o ho;obtain⟨uk,un,ut,ua,uc⟩:=u;obtain⟨ok,on,ot,oa⟩:=o;rw[eV,eO]at hi;refine bM (x:=.agg [.i .i64 uk,.i .i64 un,.s ut,.sl 5 (br ua),eP cS uc]) (by rw[aQ];simp[hu,eV]) (by omega) ?_;(conv=>whnf);refine bg [1000000000] 400 hi ?_;(conv=>whnf);refine ag (Nat.le_trans (Nat.mul_le_mul_right _ (show _≤2000001 by rw[kq];simp only[List.length_cons,List.length_nil];omega)) (Nat.le_of_ble_eq_true (by kernel_rfl))) ?_;(conv=>whnf);refine⟨hj1,s++[.mk ok on ot oa],?_,by rw[List.length_append];show s.length+1≤j+1;omega,hQ⟩;rw[BJ,eO];exact⟨rfl,rfl,rfl,rfl⟩
 ·have h1:=cm h1 (by rw[hlen]) hj (by omega)
  subst h1;rw[List.drop_length]at hQ;have hQ:s=os:=by simpa[nj] using hQ
  subst hQ;exact⟨.inr rfl,⟨s6,trivial⟩⟩
end MN
end
section
open Go Go.AM Go.Proofs TK
set_option maxRecDepth 100000
namespace MN
def eI (s:List Nat):List (Nat×Cl)→List (Nat×Cl)
 | []=>[]
 |(k,c)::r=>(k,match bA s k with|true=>⟨true,zV⟩|false=>c)::eI s r
theorem Du:∀M:List (Nat×Cl),eI [] M=M
 | []=>rfl
 |(k,c)::r=>by rw[eI,Du r];rfl
theorem wS {s t:List Nat} (h:∀k,bA s k=bA t k):∀M:List (Nat×Cl),eI s M=eI t M
 | []=>rfl
 |(k,c)::r=>by rw[eI,eI,wS h r,h k]
theorem oM:∀(l:List Nat) (i:Nat),bA l i=true↔i∈l
 | [],i=>by simp[bA]
 |x::r,i=>by
  rw[bA,List.mem_cons]
  cases hb:Nat.beq x i with
  |true=>simp[Nat.eq_of_beq_eq_true hb]
  |false=>
   have:i≠x:=fun e=>by rw[e,Nat.beq_refl]at hb;cases hb
   simp[this,oM r i]
theorem pO (s:List Nat) (a k:Nat):bA (s++[a]) k=(bA s k||Nat.beq a k):=by
 induction s with
 |nil=>simp only[List.nil_append,bA,Bool.false_or];cases Nat.beq a k<;>rfl
 |cons x r ih=>
  rw[List.cons_append,bA,bA]
  cases Nat.beq x k with
  |true=>rfl
  |false=>exact ih
theorem Dc {s:List Nat} {a:Nat}:∀{M:List (Nat×Cl)},(M.map (·.1)).Nodup→aV a ⟨true,zV⟩ (eI s M)=eI (s++[a]) M
 | [],_=>rfl
 |(k,c)::r,h=>by
  rw[List.map_cons,List.nodup_cons]at h;rw[eI,eI,aV,pO]
  cases hb:Nat.beq k a with
  |true=>
   have hk:=Nat.eq_of_beq_eq_true hb;subst hk;rw[Nat.beq_refl,Bool.or_true]
   have:∀{r:List (Nat×Cl)},k∉r.map (·.1)→eI (s++[k]) r=eI s r:=by
    intro r
    induction r with
    |nil=>intro _;rfl
    |cons p q ih=>
     obtain⟨k2,c2⟩:=p;intro hn;simp only[List.map_cons,List.mem_cons,not_or]at hn;rw[eI,eI,ih hn.2,pO,beq_false hn.1,Bool.or_false]
   rw[this h.1]
  |false=>
   have:Nat.beq a k=false:=beq_false fun e=>by rw[e,Nat.beq_refl]at hb;cases hb
   rw[this,Bool.or_false];dsimp only;rw[Dc h.2]
theorem Cp {s:List Nat} {a:Nat}:∀{M:List (Nat×Cl)},(aJ a M).isSome=true→∃x,aJ a (eI s M)=some x
 | [],h=>by cases h
 |(k,c)::r,h=>by
  rw[aJ]at h;rw[eI,aJ]
  cases hb:Nat.beq k a with
  |true=>exact⟨_,rfl⟩
  |false=>rw[hb]at h;exact Cp h
def KI (s:List Nat) (i:Nat):Nat:=(s[i]?).getD 0
def gY:List (Nat×Cl)→Bool
 | []=>true
 |(k,_)::r=>!(r.any fun p=>Nat.beq p.1 k)&&gY r
theorem vw:∀{M:List (Nat×Cl)},gY M=true→(M.map (·.1)).Nodup
 | [],_=>List.nodup_nil
 |(k,c)::r,h=>by
  rw[gY,Bool.and_eq_true]at h;rw[List.map_cons,List.nodup_cons];refine⟨fun hm=>?_,vw h.2⟩;obtain⟨p,hp,e⟩:=List.mem_map.1 hm;have:(r.any fun p=>Nat.beq p.1 k)=true:=List.any_eq_true.2 ⟨p,hp,by rw[e];exact Nat.beq_refl _⟩;rw[this]at h;exact absurd h.1 (by decide)
def nP (z:bf Cl) (y:bf (List Nat)) (l:List Vl):Option ((List Ov×ByteArray)×bf Cl×bf (List Nat)):=match Nat.ble l.length 2000000&&gY z.2 with
 |false=>none
 |true=>match gM (fQ z.2 (JV z.2 l)) l [] with
  |none=>none
  |some (false,s)=>some (([],KA),z,(y.1+1,(y.1,s)::y.2))
  |some (true,s)=>match me z.2 l with
   |none=>none
   |some true=>some (([],kQ),z,(y.1+1,(y.1,s)::y.2))
   |some false=>match nj (qx z.2 (JV z.2 l)) l with
    |none=>none
    |some os=>some ((os,⟨#[]⟩),(z.1,eI s z.2),(y.1+1,(y.1,s)::y.2))
theorem iu (z:bf Cl) (y:bf (List Nat)) (l:List Vl) (R:(List Ov×ByteArray)×bf Cl×bf (List Nat)) (hF:nP z y l=some R):
 av Tryz.prog 260 [.p (.sl 5 (br l))] [(1000000000,kJ z),(1000000001,Is y)] (.cz [.p (.sl 4 (gH R.1.1)),.p (.s R.1.2)]) [(1000000000,kJ R.2.1),(1000000001,Is R.2.2)]:=by
 unfold nP at hF
 cases hbl:Nat.ble l.length 2000000&&gY z.2 with
 |false=>rw[hbl]at hF;cases hF
 |true=>
  rw[hbl]at hF;rw[Bool.and_eq_true]at hbl;have hl:=Nat.le_of_ble_eq_true hbl.1;have hnd:=vw hbl.2;dsimp only at hF
  cases hg:gM (fQ z.2 (JV z.2 l)) l [] with
  |none=>rw[hg]at hF;cases hF
  |some q=>
   obtain⟨b,s⟩:=q;rw[hg]at hF;have c1:=yI z y l b s _ hl hg;have hal:=pQ (lR _) l [] b s (fun _ h=>by cases h) hg;have c2:=fun b=>mF z l b hl;have c3:=fun os=>DI z (JV z.2 l) l os hl;unfold kJ Is at *
   cases b with
   |false=>
    cases hF;dsimp only[Nc]at c1;refine av.intro (ah Tryz.prog) az Tryz.func260 rfl (by rfl) (by kernel_rfl) (by show 1≤_;decide) rfl ?_;(conv=>whnf);refine bg [1000000000,1000000001] 300 c1 ?_;(conv=>whnf);exact⟨.inl rfl,⟨s6,s6,trivial⟩⟩
   |true=>
    dsimp only[Nc]at c1 hF
    cases hA:me z.2 l with
    |none=>rw[hA]at hF;cases hF
    |some bl=>
     rw[hA]at hF;have c2:=c2 bl hA
     cases bl with
     |true=>
      cases hF;refine av.intro (ah Tryz.prog) az Tryz.func260 rfl (by rfl) (by kernel_rfl) (by show 1≤_;decide) rfl ?_;(conv=>whnf);refine bg [1000000000,1000000001] 300 c1 ?_;(conv=>whnf);refine bg [1000000000] 300 c2 ?_;(conv=>whnf);exact⟨.inl rfl,⟨s6,s6,trivial⟩⟩
     |false=>
      dsimp only at hF
      cases hV:nj (qx z.2 (JV z.2 l)) l with
      |none=>rw[hV]at hF;cases hF
      |some os=>
       rw[hV]at hF;cases hF;have c3:=c3 os hV;have hty:aJ y.1 ((y.1,s)::y.2)=some s:=by rw[aJ,Nat.beq_refl]
       refine av.pU (ah Tryz.prog) Tryz.func260 rfl (by rfl) (by show 1≤_;decide) rfl ?_;refine iW.cut (ah Tryz.prog) az (by kernel_rfl) 4 [2,4] [1000000000,1000000001] (fun _:Unit=>[.p (.sl 4 (gH os)),.p (.amp gS y.1)]) (fun _=>[.store 212 true cS z.1 6 (cy zM z.2),.store 344 true gS (y.1+1) 0 (cy eG ((y.1,s)::y.2))]) (fun _=>True) ?_ ?_
       ·conv=>whnf
        refine bg [1000000000,1000000001] 300 c1 ?_;(conv=>whnf);refine bg [1000000000] 300 c2 ?_;(conv=>whnf);refine bg [1000000000] 300 c3 ?_;(conv=>whnf);exact⟨(),⟨rfl,rfl,rfl,rfl⟩,trivial⟩
       ·rintro _ -
        refine iW.seq ?_
        refine iW.Qh (ah Tryz.prog) az (kt:=137) (et:=4) (σ:=List (Nat×Cl)) (N:=s.length) (TT:=344) (sp:=gS) (q:=y.1) 1 1000000001 [2] [1000000000,1000000001] (fun _ _=>[.p (.sl 4 (gH os))])
         (fun _ M=>[.store 212 true cS z.1 6 (cy zM M),.store 344 true gS (y.1+1) 0 (cy eG ((y.1,s)::y.2))]) (fun seen M=>M=eI (seen.map (KI s)) z.2∧seen.Nodup∧∀i∈seen,i<s.length) (fun _ _=>s.map pV)
         ⟨rfl,rfl,rfl,rfl,rfl⟩ (by kernel_rfl) (by kernel_rfl) (fun _ _ _ _ h=>h) ⟨rfl,rfl,rfl⟩ ⟨rfl,rfl,rfl⟩ ⟨rfl,rfl,rfl⟩ (by decide) (by decide) ⟨rfl,rfl,rfl,rfl⟩ (by kernel_rfl) (by kernel_rfl) (by decide) ?_ ?_ ?_ ?_
        ·conv=>whnf
         exact⟨rfl,z.2,Tl.of ⟨rfl,rfl,rfl,rfl⟩,(Du _).symm,List.nodup_nil,by simp⟩
        ·rintro seen M ⟨rfl,_,_⟩
         exact⟨⟨_,_,rfl,aq (enc:=eG) hty⟩,by simp⟩
        ·rintro seen M ⟨rfl,h1,h2⟩ h3
         have hall:∀k,bA (seen.map (KI s)) k=bA s k:=by
          intro k;rw[Bool.eq_iff_iff,oM,oM,List.mem_map]
          constructor
          ·rintro⟨i,hi,rfl⟩
           have:=h2 i hi;rw[KI,List.getElem?_eq_getElem this];exact List.getElem_mem this
          ·intro hk
           obtain⟨i,hi,e⟩:=List.getElem_of_mem hk;refine⟨i,?_,by rw[KI,List.getElem?_eq_getElem hi];exact e⟩;refine Classical.byContradiction fun hc=>?_;have:=pR s.length (i::seen) (List.nodup_cons.2 ⟨hc,h1⟩) (fun a ha=>by rcases List.mem_cons.1 ha with rfl|ha;exact hi;exact h2 a ha);rw[List.length_cons]at this;omega
         rw[wS hall];refine iW.fin (ah Tryz.prog) az (by kernel_rfl) ?_;(conv=>whnf);exact⟨.inl rfl,⟨s6,s6,trivial⟩⟩
        ·rintro B seen M j x ⟨rfl,h1,h2⟩ hj hjs hlt hx
         obtain⟨a,ha⟩:∃a,s[j]?=some a:=⟨_,List.getElem?_eq_getElem hj⟩
         have hx':x=pV a:=by
          rw[List.getElem?_map,ha]at hx;cases hx;rfl
         subst hx';obtain⟨c,hc⟩:=Cp (s:=seen.map (KI s)) (hal a (List.mem_of_getElem? ha));have hat:KI s j=a:=by rw[KI,ha];rfl
         obtain⟨cg,⟨wk,wn,wt,wa,wc⟩⟩:=c;unfold pV;(conv=>whnf);refine ag ⟨rfl,by decide,.inl rfl⟩ ?_;refine⟨_,aq hc,?_⟩;refine au (i:=0) rfl ?_;(conv=>whnf);refine ag ⟨rfl,by decide,.inl rfl⟩ ?_;refine⟨_,aI (aq hc),?_⟩;refine au (i:=0) rfl ?_;(conv=>whnf);rw[bU];refine⟨eI ((seen++[j]).map (KI s)) z.2,Tl.of ⟨?_,rfl,rfl,rfl⟩,rfl,?_,?_⟩
         ·show [some (bq.store _ _ _ _ _ (sset a (zM ⟨true,zV⟩) (cy zM _))),_]=_
          rw[bL,Dc hnd,show eI (seen.map (KI s)++[a]) z.2=eI ((seen++[j]).map (KI s)) z.2 from by rw[List.map_append,List.map_cons,hat];rfl];rfl
         ·rw[List.nodup_append]
          exact⟨h1,by simp,fun i hi k hk=>by simp at hk;subst hk;exact fun e=>hjs (e ▸ hi)⟩
         ·intro i hi
          rcases List.mem_append.1 hi with hi|hi
          ·exact h2 i hi
          ·simp at hi;subst hi;exact hj
end MN
end
section
open Go Go.AM Go.Proofs
namespace TR
theorem az:Tryz.prog.follows .mixedOrders=true:=by kernel_rfl
inductive Ty where
 |mk (kind:Int) (name:ByteArray) (args:List Ty)
inductive Pt where
 |mk (kind num:Int) (text:ByteArray) (args:List Pt)
mutual
inductive Ex where
 |mk (kind num:Int) (text:ByteArray) (names:List ByteArray) (types:List Ty) (args:List Ex) (dR:List eR) (pos:Int)
inductive eR where
 |mk (pat:Pt) (body:Ex)
end
def Ty.kind:Ty→Int|.mk k _ _=>k
def Ty.args:Ty→List Ty|.mk _ _ a=>a
def Pt.kind:Pt→Int|.mk k _ _ _=>k
def Pt.text:Pt→ByteArray|.mk _ _ t _=>t
def Pt.args:Pt→List Pt|.mk _ _ _ a=>a
def Ex.kind:Ex→Int|.mk k _ _ _ _ _ _ _=>k
def Ex.num:Ex→Int|.mk _ n _ _ _ _ _ _=>n
def Ex.text:Ex→ByteArray|.mk _ _ t _ _ _ _ _=>t
def Ex.names:Ex→List ByteArray|.mk _ _ _ n _ _ _ _=>n
def Ex.args:Ex→List Ex|.mk _ _ _ _ _ a _ _=>a
def Ex.dR:Ex→List eR|.mk _ _ _ _ _ _ a _=>a
def eR.pat:eR→Pt|.mk p _=>p
def eR.body:eR→Ex|.mk _ e=>e
theorem Ty.ind {Q:Ty→Prop} (h:∀k n xs,(∀a∈xs,Q a)→Q (.mk k n xs)) (t:Ty):Q t:=
 Ty.rec (motive_1:=Q) (motive_2:=fun l=>∀a∈l,Q a) (fun k n xs ih=>h k n xs ih) (fun _ hb=>by cases hb) (fun a r h1 h2 b hb=>by
  rcases List.mem_cons.1 hb with hb|hb
  ·rw[hb];exact h1
  ·exact h2 b hb) t
theorem Pt.ind {Q:Pt→Prop} (h:∀k n t xs,(∀a∈xs,Q a)→Q (.mk k n t xs)) (t:Pt):Q t:=
 Pt.rec (motive_1:=Q) (motive_2:=fun l=>∀a∈l,Q a) (fun k n t xs ih=>h k n t xs ih) (fun _ hb=>by cases hb) (fun a r h1 h2 b hb=>by
  rcases List.mem_cons.1 hb with hb|hb
  ·rw[hb];exact h1
  ·exact h2 b hb) t
theorem Ex.ind {Q:Ex→Prop} (h:∀k n t ns ts xs ms p,(∀a∈xs,Q a)→(∀a∈ms,Q a.body)→Q (.mk k n t ns ts xs ms p)) (e:Ex):Q e:=
 Ex.rec (motive_1:=Q) (motive_2:=fun a=>Q a.body) (motive_3:=fun l=>∀a∈l,Q a) (motive_4:=fun l=>∀a∈l,Q a.body) (fun k n t ns ts xs ms p h1 h2=>h k n t ns ts xs ms p h1 h2) (fun _ _ h=>h)
  (fun _ hb=>by cases hb) (fun a r h1 h2 b hb=>by
    rcases List.mem_cons.1 hb with hb|hb
    ·rw[hb];exact h1
    ·exact h2 b hb)
  (fun _ hb=>by cases hb) (fun a r h1 h2 b hb=>by
    rcases List.mem_cons.1 hb with hb|hb
    ·rw[hb];exact h1
    ·exact h2 b hb) e
def bD (s:ByteArray):PV:=.s s
mutual
def eT:Ty→PV
 |.mk k n xs=>.agg [.i .i64 k,.s n,.sl 3 (lG xs)]
def lG:List Ty→List PV
 | []=>[]
 |t::r=>eT t::lG r
end
mutual
def eP:Pt→PV
 |.mk k n t xs=>.agg [.i .i64 k,.i .i64 n,.s t,.sl 4 (ov xs)]
def ov:List Pt→List PV
 | []=>[]
 |t::r=>eP t::ov r
end
mutual
def eE:Ex→PV
 |.mk k n t ns ts xs ms p=>.agg [.i .i64 k,.i .i64 n,.s t,.sl 1 (ns.map bD),.sl 3 (lG ts),.sl 8 (dZ xs),.sl 12 (jz ms),.i .i64 p]
def eA:eR→PV
 |.mk p e=>.agg ((eP p).cells++(eE e).cells)
def dZ:List Ex→List PV
 | []=>[]
 |t::r=>eE t::dZ r
def jz:List eR→List PV
 | []=>[]
 |t::r=>eA t::jz r
end
theorem kz (l:List Ty):lG l=l.map eT:=by
 induction l with
 |nil=>rfl
 |cons t r ih=>simp[lG,ih]
theorem lS (l:List Pt):ov l=l.map eP:=by
 induction l with
 |nil=>rfl
 |cons t r ih=>simp[ov,ih]
theorem iK (l:List Ex):dZ l=l.map eE:=by
 induction l with
 |nil=>rfl
 |cons t r ih=>simp[dZ,ih]
theorem ko (l:List eR):jz l=l.map eA:=by
 induction l with
 |nil=>rfl
 |cons t r ih=>simp[jz,ih]
theorem tN {l:List Pt} {k:Nat} {t:Pt} (h:l[k]?=some t):(ov l)[k]?=some (eP t):=by rw[lS];simp[h]
theorem nT {l:List Ex} {k:Nat} {t:Ex} (h:l[k]?=some t):(dZ l)[k]?=some (eE t):=by rw[iK];simp[h]
theorem su {l:List eR} {k:Nat} {t:eR} (h:l[k]?=some t):(jz l)[k]?=some (eA t):=by rw[ko];simp[h]
theorem F1 (l:List Ty):(lG l).length=l.length:=by rw[kz];simp
theorem gP (l:List Pt):(ov l).length=l.length:=by rw[lS];simp
theorem cA (l:List Ex):(dZ l).length=l.length:=by rw[iK];simp
theorem iT (l:List eR):(jz l).length=l.length:=by rw[ko];simp
theorem F6 (l r:List Pt):ov (l++r)=ov l++ov r:=by simp[lS]
theorem sZ (l r:List Ex):dZ (l++r)=dZ l++dZ r:=by simp[iK]
theorem Le (l r:List eR):jz (l++r)=jz l++jz r:=by simp[ko]
theorem tA {x:PV}:∀{l:List PV},x∈l→PV.wt x≤PV.cG l
 | [],h=>by cases h
 |y::r,h=>by
  simp only[PV.cG];rcases List.mem_cons.1 h with rfl|h
  ·omega
  ·have:=tA h;omega
theorem p7:∀{l:List PV},(∀x∈l,1≤PV.wt x)→l.length≤PV.cG l
 | [],_=>by simp[PV.cG]
 |y::r,h=>by
  have h1:=h y (by simp);have h2:=p7 (l:=r) (fun x hx=>h x (by simp[hx]));simp only[PV.cG,List.length_cons];omega
theorem yQ (x:PV):PV.cG x.cells=PV.wt x:=by cases x<;>simp[PV.cells,PV.cG,PV.wt]
def wT (t:Ty):Nat:=PV.wt (eT t)
def wP (t:Pt):Nat:=PV.wt (eP t)
def wE (t:Ex):Nat:=PV.wt (eE t)
def wA (t:eR):Nat:=PV.wt (eA t)
theorem Od (k:Int) (n:ByteArray) (xs:List Ty):wT (.mk k n xs)=n.size+3+PV.cG (lG xs):=by simp[wT,eT,PV.wt,PV.cG];omega
theorem yu (k m:Int) (n:ByteArray) (xs:List Pt):wP (.mk k m n xs)=n.size+4+PV.cG (ov xs):=by simp[wP,eP,PV.wt,PV.cG];omega
theorem tG (k n:Int) (t:ByteArray) (ns:List ByteArray) (ts:List Ty) (xs:List Ex) (ms:List eR) (p:Int):wE (.mk k n t ns ts xs ms p)=t.size+8+PV.cG (ns.map bD)+PV.cG (lG ts)+PV.cG (dZ xs)+PV.cG (jz ms):=by
 simp[wE,eE,PV.wt,PV.cG];omega
theorem Df (p:Pt) (e:Ex):wA (.mk p e)=wP p+wE e:=by simp[wA,eA,PV.wt,PV.dS,yQ,wP,wE]
theorem EJ (e:Ex):8≤wE e:=by cases e;rw[tG];omega
theorem En (e:Pt):4≤wP e:=by cases e;rw[yu];omega
theorem Nn (e:Ty):3≤wT e:=by cases e;rw[Od];omega
theorem MW (e:eR):12≤wA e:=by obtain⟨p,e⟩:=e;rw[Df];have:=En p;have:=EJ e;omega
theorem Lw {x:Ex} {l:List Ex} (h:x∈l):wE x≤PV.cG (dZ l):=by rw[iK];exact tA (List.mem_map.2 ⟨x,h,rfl⟩)
theorem Gs {x:Pt} {l:List Pt} (h:x∈l):wP x≤PV.cG (ov l):=by rw[lS];exact tA (List.mem_map.2 ⟨x,h,rfl⟩)
theorem LJ {x:eR} {l:List eR} (h:x∈l):wA x≤PV.cG (jz l):=by rw[ko];exact tA (List.mem_map.2 ⟨x,h,rfl⟩)
theorem LW (l:List Ex):l.length≤PV.cG (dZ l):=by
 have:=p7 (l:=dZ l) (fun x hx=>by rw[iK]at hx;obtain⟨y,_,rfl⟩:=List.mem_map.1 hx;have:=EJ y;unfold wE at this;omega)
 rwa [cA]at this
theorem GM (l:List Pt):l.length≤PV.cG (ov l):=by
 have:=p7 (l:=ov l) (fun x hx=>by rw[lS]at hx;obtain⟨y,_,rfl⟩:=List.mem_map.1 hx;have:=En y;unfold wP at this;omega)
 rwa [gP]at this
theorem Lz (l:List Ty):l.length≤PV.cG (lG l):=by
 have:=p7 (l:=lG l) (fun x hx=>by rw[kz]at hx;obtain⟨y,_,rfl⟩:=List.mem_map.1 hx;have:=Nn y;unfold wT at this;omega)
 rwa [F1]at this
theorem KS (l:List eR):l.length≤PV.cG (jz l):=by
 have:=p7 (l:=jz l) (fun x hx=>by rw[ko]at hx;obtain⟨y,_,rfl⟩:=List.mem_map.1 hx;have:=MW y;unfold wA at this;omega)
 rwa [iT]at this
theorem Lc (l:List ByteArray):l.length≤PV.cG (l.map bD):=by
 have:=p7 (l:=l.map bD) (fun x hx=>by obtain⟨y,_,rfl⟩:=List.mem_map.1 hx;simp[bD,PV.wt]);simpa using this
theorem lT {k n:Int} {t:ByteArray} {ns:List ByteArray} {ts:List Ty} {xs:List Ex} {ms:List eR} {p:Int} {a:Ex} (h:a∈xs):wE a+8≤wE (.mk k n t ns ts xs ms p):=by have:=Lw h;rw[tG];omega
theorem KW {k n:Int} {t:ByteArray} {ns:List ByteArray} {ts:List Ty} {xs:List Ex} {ms:List eR} {p:Int} {a:eR} (h:a∈ms):wA a+8≤wE (.mk k n t ns ts xs ms p):=by have:=LJ h;rw[tG];omega
theorem Bf (a:eR):wP a.pat+wE a.body=wA a:=by obtain⟨p,e⟩:=a;rw[Df];rfl
theorem nI {k n:Int} {t:ByteArray} {ns:List ByteArray} {ts:List Ty} {xs:List Ex} {ms:List eR} {p:Int} {a:eR} (h:a∈ms):wP a.pat+wE a.body+8≤wE (.mk k n t ns ts xs ms p):=by rw[Bf];exact KW h
theorem Bp {k n:Int} {t:ByteArray} {xs:List Pt} {a:Pt} (h:a∈xs):wP a+4≤wP (.mk k n t xs):=by have:=Gs h;rw[yu];omega
theorem tP (k n:Int) (t:ByteArray) (ns:List ByteArray) (ts:List Ty) (xs:List Ex) (ms:List eR) (p:Int):t.size+ns.length+ts.length+xs.length+ms.length+8≤wE (.mk k n t ns ts xs ms p):=by
 have:=Lc ns;have:=Lz ts;have:=LW xs;have:=KS ms;rw[tG];omega
theorem GV (k n:Int) (t:ByteArray) (xs:List Pt):t.size+xs.length+4≤wP (.mk k n t xs):=by
 have:=GM xs;rw[yu];omega
mutual
def fe:Pt→Nat
 |.mk _ _ _ xs=>1+bT xs
def bT:List Pt→Nat
 | []=>0
 |p::r=>fe p+bT r
end
mutual
def fW:Ex→List Ex
 |.mk k n t ns ts xs ms p=>.mk k n t ns ts xs ms p::(cX xs++jo ms)
def cX:List Ex→List Ex
 | []=>[]
 |e::r=>fW e++cX r
def jo:List eR→List Ex
 | []=>[]
 |.mk _ e::r=>fW e++jo r
end
mutual
def oG:Ex→Nat
 |.mk _ _ _ _ _ xs ms _=>1+(nU xs+nN ms)
def nU:List Ex→Nat
 | []=>0
 |e::r=>oG e+nU r
def nN:List eR→Nat
 | []=>0
 |.mk p e::r=>fe p+oG e+nN r
end
theorem lZ (l r:List Pt):bT (l++r)=bT l+bT r:=by
 induction l with
 |nil=>simp[bT]
 |cons a l ih=>simp[bT,ih];omega
theorem qW (l r:List Ex):cX (l++r)=cX l++cX r:=by
 induction l with
 |nil=>simp[cX]
 |cons a l ih=>simp[cX,ih]
theorem FJ (l:List eR):jo l=cX (l.map eR.body):=by
 induction l with
 |nil=>rfl
 |cons a l ih=>obtain⟨p,e⟩:=a;simp[jo,cX,ih,eR.body]
theorem nA (e:Ex):fW e=e::(cX e.args++jo e.dR):=by obtain⟨k,n,t,ns,ts,xs,ms,p⟩:=e;rw[fW];rfl
theorem D3 (p:Pt):1≤fe p:=by cases p;rw[fe];omega
mutual
theorem xK:∀(p:Pt),fe p≤wP p
 |.mk k n t xs=>by rw[fe,yu];have:=z6 xs;omega
theorem z6:∀(l:List Pt),bT l≤PV.cG (ov l)
 | []=>by simp[bT]
 |p::r=>by have h1:=xK p;have h2:=z6 r;unfold wP at h1;simp only[bT,ov,PV.cG];omega
end
mutual
theorem size_le:∀(e:Ex),oG e≤wE e
 |.mk k n t ns ts xs ms p=>by rw[oG,tG];have:=DB xs;have:=Di ms;omega
theorem DB:∀(l:List Ex),nU l≤PV.cG (dZ l)
 | []=>by simp[nU]
 |p::r=>by have h1:=size_le p;have h2:=DB r;unfold wE at h1;simp only[nU,dZ,PV.cG];omega
theorem Di:∀(l:List eR),nN l≤PV.cG (jz l)
 | []=>by simp[nN]
 |.mk p e::r=>by
  have h1:=size_le e;have h2:=Di r;have h3:=xK p;have h4:=Df p e;unfold wA at h4;simp only[nN,jz,PV.cG];omega
end
mutual
theorem wu:∀(e:Ex),(fW e).length≤oG e
 |.mk k n t ns ts xs ms p=>by rw[fW,oG];have:=Cf xs;have:=Dw ms;simp;omega
theorem Cf:∀(l:List Ex),(cX l).length≤nU l
 | []=>by simp[cX]
 |p::r=>by have h1:=wu p;have h2:=Cf r;simp only[nU,cX,List.length_append];omega
theorem Dw:∀(l:List eR),(jo l).length≤nN l
 | []=>by simp[jo]
 |.mk p e::r=>by have h1:=wu e;have h2:=Dw r;simp only[nN,jo,List.length_append];omega
end
mutual
theorem tq:∀(e:Ex) {x:Ex},x∈fW e→wE x≤wE e
 |.mk k n t ns ts xs ms p,x,h=>by
  rw[fW]at h;rcases List.mem_cons.1 h with rfl|h
  ·omega
  ·rw[tG]
   rcases List.mem_append.1 h with h|h
   ·have:=Aw xs h;omega
   ·have:=Ac ms h;omega
theorem Aw:∀(l:List Ex) {x:Ex},x∈cX l→wE x≤PV.cG (dZ l)
 | [],x,h=>by simp[cX]at h
 |e::r,x,h=>by
  simp only[cX]at h;simp only[dZ,PV.cG];rcases List.mem_append.1 h with h|h
  ·have:=tq e h;rw[show PV.wt (eE e)=wE e from rfl];omega
  ·have:=Aw r h;omega
theorem Ac:∀(l:List eR) {x:Ex},x∈jo l→wE x≤PV.cG (jz l)
 | [],x,h=>by simp[jo]at h
 |.mk p e::r,x,h=>by
  simp only[jo]at h;simp only[jz,PV.cG];rcases List.mem_append.1 h with h|h
  ·have:=tq e h;have h4:=Df p e;rw[show PV.wt (eA (.mk p e))=wA (.mk p e) from rfl];omega
  ·have:=Ac r h;omega
end
theorem x9:∀(l:List Ex),l.length≤(cX l).length
 | []=>by simp
 |e::r=>by have:=x9 r;rw[cX,nA];simp;omega
def dn (a:Int):Nat→Int
 |0=>a
 |k+1=>IntKind.i64.wrap (dn a k-1)
theorem Mx {a:Int} (h:-1≤a∧a≤9223372036854775807):∀{k:Nat},(k:Int)≤a+1→dn a k=a-k
 |0,_=>by simp[dn]
 |k+1,hk=>by rw[dn,Mx h (by omega),wrap64 (by omega) (by omega)];omega
theorem KC {n k:Nat} {m:Int} (hm:m=n) (hn:n≤1048640) (hk:k≤n):dn (IntKind.i64.wrap (m-1)) k=(n:Int)-1-k:=by
 subst hm;rw[wrap64 (by omega) (by omega),Mx (by omega) (by omega)]
theorem L3 {n k:Nat} {m:Int} (h:decide (dn (IntKind.i64.wrap (m-1)) k≥0)=true) (hm:m=n) (hn:n≤1048640) (hk:k≤n):k<n:=by
 rw[KC hm hn hk]at h;have:=of_decide_eq_true h;omega
theorem L7 {n k:Nat} {m:Int} (h:decide (dn (IntKind.i64.wrap (m-1)) k≥0)=false) (hm:m=n) (hn:n≤1048640) (hk:k≤n):k=n:=by
 rw[KC hm hn hk]at h;have:=of_decide_eq_false h;omega
theorem Gr {α:Type} {l:List α} {k:Nat} (h:k<l.length):∃a,l.reverse[k]?=some a∧l[l.length-1-k]?=some a:=by
 refine⟨l[l.length-1-k],?_,by simp⟩;rw[List.getElem?_reverse h,List.getElem?_eq_getElem]
theorem Mj {xs:List PV} {n k:Nat} {m:Int} {x:PV} {K:PV→Prop} (h:xs[n-1-k]?=some x) (hm:m=n) (hn:n≤1048640) (hk:k<n) (hK:K x):AT xs (dn (IntKind.i64.wrap (m-1)) k) K:=by
 rw[KC hm hn (by omega)];refine⟨x,by omega,?_,hK⟩;rw[show((n:Int)-1-k).toNat=n-1-k by omega];exact h
end TR
end
