/- Contracts, and the law, for every input. No conditions. -/
import Derived.Test.YtdmopjgjhfhfdaaGreatDoorMNA
import Derived.Test.YtdmopjgjhfhfdaaGreatDoorAMRngD
open Go Go.AM Go.Proofs TK
set_option maxRecDepth 100000
namespace MN
abbrev gS:Nat:=26
def gpair (k:Nat):PV×PV:=(.adr cS k,.b true)
def eG (s:List Nat):List PV:=(s.map gpair).map mkq
def hGm (z:Sto (List Nat)):AObj:=.store 344 true gS z.1 0 (enM eG z.2)
theorem g_find (c:Nat):∀s:List Nat,mfind (.adr cS c) (s.map gpair)=match memB s c with|true=>some (.b true)|false=>none
 | []=>rfl
 |a::r=>by
  show(match Nat.beq c a with|true=>some (PV.b true)|false=>mfind (.adr cS c) (r.map gpair))=match (match Nat.beq a c with|true=>true|false=>memB r c) with|true=>some (PV.b true)|false=>none
  rw[g_find c r,show Nat.beq c a=Nat.beq a c from by
   cases h:Nat.beq a c with
   |true=>rw[Nat.eq_of_beq_eq_true h];exact Nat.beq_refl _
   |false=>cases h2:Nat.beq c a with
    |false=>rfl
    |true=>rw[Nat.eq_of_beq_eq_true h2,Nat.beq_refl]at h;cases h]
  cases Nat.beq a c<;>rfl
theorem g_look (c:Nat) (s:List Nat):mlook (.adr cS c) (.b false) (s.map gpair)=(.b (memB s c),memB s c):=by
 rw[mlook,g_find]
 cases memB s c<;>rfl
def aliveS (M:List (Nat×Cl)) (s:List Nat):Prop:=∀k∈s,(tlk k M).isSome=true
theorem g_keys {M:List (Nat×Cl)} {s:List Nat} (h:aliveS M s):keysIn cS (enM eCl M) (s.map gpair):=by
 intro x hx;obtain⟨k,hk,rfl⟩:=List.mem_map.1 hx;obtain⟨c,hc⟩:=Option.isSome_iff_exists.1 (h k hk);exact⟨k,rfl,by rw[slk_in (enc:=eCl) hc];rfl⟩
theorem tset_id {α:Type} {k:Nat} {x:α}:∀{M:List (Nat×α)},tlk k M=some x→tset k x M=M
 | [],h=>by cases h
 |(a,y)::r,h=>by
  rw[tlk]at h;rw[tset]
  cases hb:Nat.beq a k with
  |true=>rw[hb]at h;cases h;rfl
  |false=>rw[hb]at h;dsimp only at h ⊢;rw[tset_id h]
def gath0 (M:List (Nat×Cl)) (v:Vl) (s:List Nat):Option (Bool×List Nat):=match v with
 |.mk k _ _ _ c=>match k==8 with
  |false=>some (true,s)
  |true=>match c with
   |none=>none
   |some a=>match tlk a M with
    |none=>none
    |some x=>match x.gone||memB s a with
     |true=>some (false,s)
     |false=>some (true,s++[a])
def gathL (f:Vl→List Nat→Option (Bool×List Nat)):List Vl→List Nat→Option (Bool×List Nat)
 | [],s=>some (true,s)
 |v::r,s=>match f v s with
  |none=>none
  |some (false,s')=>some (false,s')
  |some (true,s')=>gathL f r s'
def gathF (M:List (Nat×Cl)):Nat→Vl→List Nat→Option (Bool×List Nat)
 |0,_,_=>none
 |n+1,v,s=>match gath0 M v s with
  |none=>none
  |some (false,s')=>some (false,s')
  |some (true,s')=>match partsF M v with
   |none=>none
   |some l=>match decide (l.length≤1000000) with
    |false=>none
    |true=>gathL (gathF M n) l s'
theorem gath0_alive {M:List (Nat×Cl)} {v:Vl} {s s':List Nat} {b:Bool} (ha:aliveS M s) (h:gath0 M v s=some (b,s')):aliveS M s':=by
 obtain⟨k,n,t,l,c⟩:=v;unfold gath0 at h;dsimp only at h;split at h
 ·cases h;exact ha
 ·split at h
  ·cases h
  ·split at h
   ·cases h
   ·rename_i a x hx
    split at h
    ·cases h;exact ha
    ·cases h
     intro k hk;rcases List.mem_append.1 hk with hk|hk
     ·exact ha k hk
     ·simp at hk;subst hk;rw[hx];rfl
theorem gathL_alive {M:List (Nat×Cl)} {f:Vl→List Nat→Option (Bool×List Nat)} (hf:∀v s b s',aliveS M s→f v s=some (b,s')→aliveS M s'):∀(l:List Vl) (s:List Nat) (b:Bool) (s':List Nat),aliveS M s→gathL f l s=some (b,s')→aliveS M s'
 | [],s,b,s',ha,h=>by cases h;exact ha
 |v::r,s,b,s',ha,h=>by
  rw[gathL]at h;split at h
  ·cases h
  ·rename_i s1 h1;cases h;exact hf _ _ _ _ ha h1
  ·rename_i s1 h1;exact gathL_alive hf r _ _ _ (hf _ _ _ _ ha h1) h
theorem gathF_alive {M:List (Nat×Cl)}:∀(n:Nat) (v:Vl) (s:List Nat) (b:Bool) (s':List Nat),aliveS M s→gathF M n v s=some (b,s')→aliveS M s'
 |0,_,_,_,_,_,h=>by cases h
 |n+1,v,s,b,s',ha,h=>by
  rw[gathF]at h;split at h
  ·cases h
  ·rename_i s1 h1;cases h;exact gath0_alive ha h1
  ·rename_i s1 h1
   split at h
   ·cases h
   ·split at h
    ·cases h
    ·exact gathL_alive (gathF_alive n) _ _ _ _ (gath0_alive ha h1) h
theorem gather_spec (z:Sto Cl) (q:Nat):∀(n:Nat) (v:Vl) (y:Sto (List Nat)) (s:List Nat) (b:Bool) (s':List Nat),aliveS z.2 s→tlk q y.2=some s→gathF z.2 n v s=some (b,s')→
 AMem Tryz.prog 253 [.p (eV v),.p (.amp gS q)] [(1000000000,hCl z),(1000000001,hGm y)] (.p (.b b)) [(1000000000,hCl z),(1000000001,hGm (y.1,tset q s' y.2))]
 |0,_,_,_,_,_,_,_,hF=>by cases hF
 |n+1,v,y,s,b,s',ha,hy,hF=>by
  have ih:=gather_spec z q n;have hal:=gathF_alive (M:=z.2) n;obtain⟨vk,vn,vt,va,vc⟩:=v;have hp:=parts_spec z (.mk vk vn vt va vc);unfold gathF gath0 at hF;rw[eV]at hp ⊢;unfold hCl hGm at *;dsimp only at hF;refine AMem.intro (tyOf_ok Tryz.prog) hmix Tryz.func253 rfl (by rfl) (by kernel_rfl) (by show 2≤_;decide) rfl ?_;(conv=>whnf);refine asplit ?_ ?_<;>intro h1<;>conv=>whnf
  ·rw[show(vk==8)=true from h1]at hF
   cases vc with
   |none=>cases hF
   |some c=>
    dsimp only at hF
    cases hc:tlk c z.2 with
    |none=>rw[hc]at hF;cases hF
    |some x=>
     rw[hc]at hF;obtain⟨g,⟨wk,wn,wt,wa,wc⟩⟩:=x;dsimp only at hF;(conv=>whnf);refine aneed ⟨rfl,by decide,.inl rfl⟩ ?_;refine⟨_,slk_in hc,?_⟩;refine aidxn (i:=0) rfl ?_;(conv=>whnf)
     cases g with
     |true=>
      rw[Bool.true_or]at hF;cases hF;(conv=>whnf);rw[tset_id hy];exact⟨.inl rfl,⟨s6,s6,trivial⟩⟩
     |false=>
      rw[Bool.false_or]at hF;(conv=>whnf);refine aneed ⟨rfl,rfl,rfl,by decide,by rw[slk_in (enc:=eCl) hc];rfl⟩ ?_;refine⟨s.map gpair,slk_in (enc:=eG) hy,?_⟩;refine aneed (g_keys ha) ?_;refine⟨_,_,g_look c s,?_⟩
      cases hm:memB s c with
      |true=>
       rw[hm]at hF;cases hF;(conv=>whnf);rw[tset_id hy];exact⟨.inl rfl,⟨s6,s6,trivial⟩⟩
      |false=>
       rw[hm]at hF;dsimp only at hF;(conv=>whnf);refine aneed ⟨rfl,rfl,rfl,by decide,by rw[slk_in (enc:=eCl) hc];rfl⟩ ?_;refine⟨s.map gpair,slk_in (enc:=eG) hy,?_⟩;refine aneed ⟨g_keys ha,by rw[g_find,hm]⟩ ?_
       have hset:sset q ((s.map gpair++[(PV.adr cS c,PV.b true)]).map mkq) (enM eG y.2)=enM eG (tset q (s++[c]) y.2):=by
        rw[←sset_en eG q (s++[c])];unfold eG;rw[List.map_append (l₁:=s)];rfl
       rw[hset]
       have ha2:aliveS z.2 (s++[c]):=by
        intro k hk;rcases List.mem_append.1 hk with hk|hk
        ·exact ha k hk
        ·simp at hk;subst hk;rw[hc];rfl
       cases hpf:partsF z.2 (.mk vk vn vt va (some c)) with
       |none=>rw[hpf]at hF;cases hF
       |some l=>
        rw[hpf]at hF;dsimp only at hF
        cases hll:decide (l.length≤1000000) with
        |false=>rw[hll]at hF;cases hF
        |true=>
         rw[hll]at hF;dsimp only at hF;have hll:=of_decide_eq_true hll;have hp:=hp l hpf;(conv=>whnf);refine amc [1000000000] 300 hp ?_;(conv=>whnf);refine loopS (tyOf_ok _) hmix (by kernel_rfl) l.length [1,25,26,27] [1000000000,1000000001] (fun j (_:List Nat×List (Nat×List Nat))=>[.p (.amp gS q),.p (.sl 5 (eVs l)),.p (.i .i64 (eVs l).length),.p (.i .i64 (ix j))]) (fun _ P=>[.store 212 true cS z.1 6 (enM eCl z.2),.store 344 true gS y.1 0 (enM eG P.2)]) (fun j P=>aliveS z.2 P.1∧tlk q P.2=some P.1∧(∀t,tset q t P.2=tset q t y.2)∧gathL (gathF z.2 n) (l.drop j) P.1=some (b,s')) ((s++[c]),tset q (s++[c]) y.2) ⟨rfl,rfl,rfl,rfl⟩ ⟨ha2,tlk_tset hy,fun t=>tset_tset _ _ _ _,hF⟩ ?_;rintro j ⟨s1,y1⟩ hj ⟨qa,qt,qe,hQ⟩;dsimp only at qa qt qe hQ;have hlen:(eVs l).length=l.length:=by rw[eVs_map];simp
         (conv=>whnf);refine asplit ?_ ?_<;>intro h1<;>conv=>whnf
         ·have hj1:=ix_tt h1 (by rw[hlen]) hj (by omega)
          obtain⟨u,hu⟩:∃u,l[j]?=some u:=⟨_,List.getElem?_eq_getElem hj1⟩
          rw[drop_cons hu,gathL]at hQ
          cases hm:gathF z.2 n u s1 with
          |none=>rw[hm]at hQ;cases hQ
          |some w=>
           obtain⟨b1,s2⟩:=w;rw[hm]at hQ;have hi:=ih u (y.1,y1) s1 b1 s2 qa qt hm;have qa2:=hal u s1 b1 s2 qa hm;obtain⟨uk,un,ut,ua,uc⟩:=u;rw[eV]at hi;dsimp only at hi;refine aidxk (x:=.agg [.i .i64 uk,.i .i64 un,.s ut,.sl 5 (eVs ua),eP cS uc]) (by rw[eVs_map];simp[hu,eV]) (by omega) ?_;(conv=>whnf);refine amc [1000000000,1000000001] 400 hi ?_;(conv=>whnf)
           cases b1 with
           |false=>
            cases hQ;(conv=>whnf);rw[qe];exact⟨.inl rfl,⟨s6,s6,trivial⟩⟩
           |true=>
            (conv=>whnf);exact⟨hj1,(s2,tset q s2 y1),⟨rfl,rfl,rfl,rfl⟩,qa2,tlk_tset qt,fun t=>by show tset q t (tset q s2 y1)=_;rw[tset_tset];exact qe t,hQ⟩
         ·have h1:=ix_ff h1 (by rw[hlen]) hj (by omega)
          subst h1;rw[List.drop_length]at hQ;cases hQ;rw[←qe,tset_id qt];exact⟨.inl rfl,⟨s6,s6,trivial⟩⟩
  ·rw[show(vk==8)=false from h1]at hF
   dsimp only at hF
   cases hpf:partsF z.2 (.mk vk vn vt va vc) with
   |none=>rw[hpf]at hF;cases hF
   |some l=>
    rw[hpf]at hF;dsimp only at hF
    cases hll:decide (l.length≤1000000) with
    |false=>rw[hll]at hF;cases hF
    |true=>
     rw[hll]at hF;dsimp only at hF;have hll:=of_decide_eq_true hll;have hp:=hp l hpf;(conv=>whnf);refine amc [1000000000] 300 hp ?_;(conv=>whnf);refine loopS (tyOf_ok _) hmix (by kernel_rfl) l.length [1,25,26,27] [1000000000,1000000001] (fun j (_:List Nat×List (Nat×List Nat))=>[.p (.amp gS q),.p (.sl 5 (eVs l)),.p (.i .i64 (eVs l).length),.p (.i .i64 (ix j))]) (fun _ P=>[.store 212 true cS z.1 6 (enM eCl z.2),.store 344 true gS y.1 0 (enM eG P.2)]) (fun j P=>aliveS z.2 P.1∧tlk q P.2=some P.1∧(∀t,tset q t P.2=tset q t y.2)∧gathL (gathF z.2 n) (l.drop j) P.1=some (b,s')) (s,y.2) ⟨rfl,rfl,rfl,rfl⟩ ⟨ha,hy,fun _=>rfl,hF⟩ ?_;rintro j ⟨s1,y1⟩ hj ⟨qa,qt,qe,hQ⟩;dsimp only at qa qt qe hQ;have hlen:(eVs l).length=l.length:=by rw[eVs_map];simp
     (conv=>whnf);refine asplit ?_ ?_<;>intro h1<;>conv=>whnf
     ·have hj1:=ix_tt h1 (by rw[hlen]) hj (by omega)
      obtain⟨u,hu⟩:∃u,l[j]?=some u:=⟨_,List.getElem?_eq_getElem hj1⟩
      rw[drop_cons hu,gathL]at hQ
      cases hm:gathF z.2 n u s1 with
      |none=>rw[hm]at hQ;cases hQ
      |some w=>
       obtain⟨b1,s2⟩:=w;rw[hm]at hQ;have hi:=ih u (y.1,y1) s1 b1 s2 qa qt hm;have qa2:=hal u s1 b1 s2 qa hm;obtain⟨uk,un,ut,ua,uc⟩:=u;rw[eV]at hi;dsimp only at hi;refine aidxk (x:=.agg [.i .i64 uk,.i .i64 un,.s ut,.sl 5 (eVs ua),eP cS uc]) (by rw[eVs_map];simp[hu,eV]) (by omega) ?_;(conv=>whnf);refine amc [1000000000,1000000001] 400 hi ?_;(conv=>whnf)
       cases b1 with
       |false=>
        cases hQ;(conv=>whnf);rw[qe];exact⟨.inl rfl,⟨s6,s6,trivial⟩⟩
       |true=>
        (conv=>whnf);exact⟨hj1,(s2,tset q s2 y1),⟨rfl,rfl,rfl,rfl⟩,qa2,tlk_tset qt,fun t=>by show tset q t (tset q s2 y1)=_;rw[tset_tset];exact qe t,hQ⟩
     ·have h1:=ix_ff h1 (by rw[hlen]) hj (by omega)
      subst h1;rw[List.drop_length]at hQ;cases hQ;rw[←qe,tset_id qt];exact⟨.inl rfl,⟨s6,s6,trivial⟩⟩
end MN
open Go Go.AM Go.Proofs TK
set_option maxRecDepth 100000
namespace MN
noncomputable def tyG:Nat→Option TI:=hint (tyOf Tryz.prog) 344 [1000007]
theorem tyG_ok:TyOK Tryz.prog tyG:=(tyOf_ok Tryz.prog).hint _ _
abbrev gN:Nat:=2000000
def gRes (k:Nat):Bool→AV
 |true=>.tup [.p (.amp gS k),.p (.b true)]
 |false=>.tup [.c (.map none),.p (.b false)]
theorem gatherAll_spec (z:Sto Cl) (y:Sto (List Nat)) (l:List Vl) (b:Bool) (s':List Nat) (hl:l.length≤1000000) (hF:gathL (gathF z.2 gN) l []=some (b,s')):
 AMem Tryz.prog 240 [.p (.sl 5 (eVs l))] [(1000000000,hCl z),(1000000001,hGm y)] (gRes y.1 b) [(1000000000,hCl z),(1000000001,hGm (y.1+1,(y.1,s')::y.2))]:=by
 have hg:=gather_spec z y.1 gN;have hal:=gathF_alive (M:=z.2) gN;generalize gN=N at *;have hlen:(eVs l).length=l.length:=by rw[eVs_map];simp
 have hb:Nat.beq y.1 y.1=true:=Nat.beq_refl _;unfold hCl hGm at *;refine AMem.intro tyG_ok hmix Tryz.func240 rfl (by rfl) (by kernel_rfl) (by show 1≤_;decide) (by cases b<;>rfl) ?_;(conv=>whnf);refine loopS tyG_ok hmix (by kernel_rfl) l.length [4,8,9,10] [1000000000,1000000001] (fun j (_:List Nat×List (Nat×List Nat))=>[.p (.amp gS y.1),.p (.sl 5 (eVs l)),.p (.i .i64 (eVs l).length),.p (.i .i64 (ix j))]) (fun _ P=>[.store 212 true cS z.1 6 (enM eCl z.2),.store 344 true gS (y.1+1) 0 (enM eG P.2)]) (fun j P=>aliveS z.2 P.1∧tlk y.1 P.2=some P.1∧(∀t,tset y.1 t P.2=(y.1,t)::y.2)∧gathL (gathF z.2 N) (l.drop j) P.1=some (b,s')) ([],(y.1,[])::y.2) ⟨rfl,rfl,rfl,rfl⟩ ⟨(fun _ h=>by cases h),(by simp only[tlk,hb]),(fun t=>by simp only[tset,hb]),hF⟩ ?_;rintro j ⟨s1,y1⟩ hj ⟨qa,qt,qe,hQ⟩;dsimp only at qa qt qe hQ;(conv=>whnf);refine asplit ?_ ?_<;>intro h1<;>conv=>whnf
 ·have hj1:=ix_tt h1 (by rw[hlen]) hj (by omega)
  obtain⟨u,hu⟩:∃u,l[j]?=some u:=⟨_,List.getElem?_eq_getElem hj1⟩
  rw[drop_cons hu,gathL]at hQ
  cases hm:gathF z.2 N u s1 with
  |none=>rw[hm]at hQ;cases hQ
  |some w=>
   obtain⟨b1,s2⟩:=w;rw[hm]at hQ;have hi:=hg u (y.1+1,y1) s1 b1 s2 qa qt hm;have qa2:=hal u s1 b1 s2 qa hm;obtain⟨uk,un,ut,ua,uc⟩:=u;rw[eV]at hi;dsimp only at hi;refine aidxk (x:=.agg [.i .i64 uk,.i .i64 un,.s ut,.sl 5 (eVs ua),eP cS uc]) (by rw[eVs_map];simp[hu,eV]) (by omega) ?_;(conv=>whnf);refine amc [1000000000,1000000001] 400 hi ?_;(conv=>whnf)
   cases b1 with
   |false=>
    cases hQ;(conv=>whnf);rw[qe];exact⟨.inl rfl,⟨s6,s6,trivial⟩⟩
   |true=>
    (conv=>whnf);exact⟨hj1,(s2,tset y.1 s2 y1),⟨rfl,rfl,rfl,rfl⟩,qa2,tlk_tset qt,fun t=>by show tset y.1 t (tset y.1 s2 y1)=_;rw[tset_tset];exact qe t,hQ⟩
 ·have h1:=ix_ff h1 (by rw[hlen]) hj (by omega)
  subst h1;rw[List.drop_length]at hQ;cases hQ;rw[←qe,tset_id qt];exact⟨.inl rfl,⟨s6,s6,trivial⟩⟩
theorem eOs_app (o:Ov):∀l:List Ov,eOs (l++[o])=eOs l++[eO o]
 | []=>rfl
 |a::r=>by rw[List.cons_append,eOs,eOs,eOs_app o r,List.cons_append]
theorem eOs_len:∀l:List Ov,(eOs l).length=l.length
 | []=>rfl
 |a::r=>by rw[eOs,List.length_cons,eOs_len r,List.length_cons]
def valL (f:Vl→Option Ov):List Vl→Option (List Ov)
 | []=>some []
 |v::r=>match f v with
  |none=>none
  |some o=>match valL f r with
   |none=>none
   |some l=>some (o::l)
def valF (M:List (Nat×Cl)):Nat→Vl→Option Ov
 |0,_=>none
 |n+1,v=>match partsF M v with
  |none=>none
  |some l=>match decide (l.length≤1000000) with
   |false=>none
   |true=>match valL (valF M n) l with
    |none=>none
    |some os=>match v with
     |.mk k m t _ _=>some (.mk k m t os)
theorem valL_step {f:Vl→Option Ov} {a os:List Ov} {v:Vl} {r:List Vl} (h:(valL f (v::r)).map (a++·)=some os):∃o,f v=some o∧(valL f r).map ((a++[o])++·)=some os:=by
 rw[valL]at h
 cases hf:f v with
 |none=>rw[hf]at h;cases h
 |some o=>
  rw[hf]at h;refine⟨o,rfl,?_⟩
  cases hr:valL f r with
  |none=>rw[hr]at h;cases h
  |some l=>rw[hr]at h;cases h;simp
theorem value_spec (z:Sto Cl):∀(n:Nat) (v:Vl) (o:Ov),valF z.2 n v=some o→
 AMem Tryz.prog 241 [.p (eV v)] [(1000000000,hCl z)] (.p (eO o)) [(1000000000,hCl z)]
 |0,_,_,hF=>by cases hF
 |n+1,v,o,hF=>by
  have ih:=value_spec z n;obtain⟨vk,vn,vt,va,vc⟩:=v;have hp:=parts_spec z (.mk vk vn vt va vc);unfold valF at hF
  cases hpf:partsF z.2 (.mk vk vn vt va vc) with
  |none=>rw[hpf]at hF;cases hF
  |some l=>
   rw[hpf]at hF;dsimp only at hF
   cases hll:decide (l.length≤1000000) with
   |false=>rw[hll]at hF;cases hF
   |true=>
    rw[hll]at hF;dsimp only at hF;have hll:=of_decide_eq_true hll
    cases hv:valL (valF z.2 n) l with
    |none=>rw[hv]at hF;cases hF
    |some os=>
     rw[hv]at hF;cases hF;have hp:=hp l hpf;have hlen:(eVs l).length=l.length:=by rw[eVs_map];simp
     rw[eV]at hp ⊢;rw[eO];unfold hCl at *;refine AMem.intro (tyOf_ok Tryz.prog) hmix Tryz.func241 rfl (by rfl) (by kernel_rfl) (by show 1≤_;decide) rfl ?_;(conv=>whnf);refine amc [1000000000] 300 hp ?_;(conv=>whnf);refine lp_le 3 (.cells [.p (.i .i64 vk),.p (.i .i64 vn),.p (.s vt),.so 4 []]) rfl ⟨.inl rfl,.inl rfl,.inl rfl,.inr (.inr ⟨rfl,3,rfl⟩),trivial⟩ ?_;refine loopS (tyOf_ok _) hmix (by kernel_rfl) l.length [2,3,14,15,16] [2,3,1000000000] (fun j (_:List Ov)=>[.ptr 2 0,.ptr 3 0,.p (.sl 5 (eVs l)),.p (.i .i64 (eVs l).length),.p (.i .i64 (ix j))]) (fun _ s=>[.cells [.p (.i .i64 0),.p (.i .i64 0),.p (.s ⟨#[]⟩),.nilS],.cells [.p (.i .i64 vk),.p (.i .i64 vn),.p (.s vt),.so 4 (eOs s)],.store 212 true cS z.1 6 (enM eCl z.2)]) (fun j s=>s.length≤j∧(valL (valF z.2 n) (l.drop j)).map (s++·)=some os) [] ⟨rfl,rfl,rfl,rfl⟩ ⟨Nat.le_refl _,by rw[List.drop_zero,hv];rfl⟩ ?_;rintro j s hj ⟨hs,hQ⟩;(conv=>whnf);refine asplit ?_ ?_<;>intro h1<;>conv=>whnf
     ·have hj1:=ix_tt h1 (by rw[hlen]) hj (by omega)
      obtain⟨u,hu⟩:∃u,l[j]?=some u:=⟨_,List.getElem?_eq_getElem hj1⟩
      rw[drop_cons hu]at hQ;obtain⟨o,ho,hQ⟩:=valL_step hQ;have hi:=ih u o ho;obtain⟨uk,un,ut,ua,uc⟩:=u;obtain⟨ok,on,ot,oa⟩:=o;rw[eV,eO]at hi;refine aidxk (x:=.agg [.i .i64 uk,.i .i64 un,.s ut,.sl 5 (eVs ua),eP cS uc]) (by rw[eVs_map];simp[hu,eV]) (by omega) ?_;(conv=>whnf);refine amc [1000000000] 400 hi ?_;(conv=>whnf);refine aneed (Nat.le_trans (Nat.mul_le_mul_right _ (show _≤1000001 by rw[eOs_len];simp only[List.length_cons,List.length_nil];omega)) (Nat.le_of_ble_eq_true (by kernel_rfl))) ?_;(conv=>whnf);refine aneed (.inl (by kernel_rfl)) ?_;(conv=>whnf);refine⟨hj1,s++[.mk ok on ot oa],?_,by rw[List.length_append];show s.length+1≤j+1;omega,hQ⟩;rw[eOs_app,eO];exact⟨rfl,rfl,rfl,rfl⟩
     ·have h1:=ix_ff h1 (by rw[hlen]) hj (by omega)
      subst h1;rw[List.drop_length]at hQ;have hQ:s=os:=by simpa[valL] using hQ
      subst hQ;exact⟨.inl rfl,⟨s6,trivial⟩⟩
theorem values_spec (z:Sto Cl) (n:Nat) (l:List Vl) (os:List Ov) (hl:l.length≤1000000) (hF:valL (valF z.2 n) l=some os):
 AMem Tryz.prog 235 [.p (.sl 5 (eVs l))] [(1000000000,hCl z)] (.p (.sl 4 (eOs os))) [(1000000000,hCl z)]:=by
 have hg:=value_spec z n;have hlen:(eVs l).length=l.length:=by rw[eVs_map];simp
 unfold hCl at *;refine AMem.intro (tyOf_ok Tryz.prog) hmix Tryz.func235 rfl (by rfl) (by kernel_rfl) (by show 1≤_;decide) rfl ?_;(conv=>whnf);refine lp_nil 3 3 rfl ?_;refine loopS (tyOf_ok _) hmix (by kernel_rfl) l.length [3,6,7,8] [1000000000] (fun j (s:List Ov)=>[.so 4 (eOs s),.p (.sl 5 (eVs l)),.p (.i .i64 (eVs l).length),.p (.i .i64 (ix j))]) (fun _ _=>[.store 212 true cS z.1 6 (enM eCl z.2)]) (fun j s=>s.length≤j∧(valL (valF z.2 n) (l.drop j)).map (s++·)=some os) [] ⟨rfl,rfl,rfl,rfl⟩ ⟨Nat.le_refl _,by rw[List.drop_zero,hF];rfl⟩ ?_;rintro j s hj ⟨hs,hQ⟩;(conv=>whnf);refine asplit ?_ ?_<;>intro h1<;>conv=>whnf
 ·have hj1:=ix_tt h1 (by rw[hlen]) hj (by omega)
  obtain⟨u,hu⟩:∃u,l[j]?=some u:=⟨_,List.getElem?_eq_getElem hj1⟩
  rw[drop_cons hu]at hQ;obtain⟨o,ho,hQ⟩:=valL_step hQ;have hi:=hg u o ho;obtain⟨uk,un,ut,ua,uc⟩:=u;obtain⟨ok,on,ot,oa⟩:=o;rw[eV,eO]at hi;refine aidxk (x:=.agg [.i .i64 uk,.i .i64 un,.s ut,.sl 5 (eVs ua),eP cS uc]) (by rw[eVs_map];simp[hu,eV]) (by omega) ?_;(conv=>whnf);refine amc [1000000000] 400 hi ?_;(conv=>whnf);refine aneed (Nat.le_trans (Nat.mul_le_mul_right _ (show _≤1000001 by rw[eOs_len];simp only[List.length_cons,List.length_nil];omega)) (Nat.le_of_ble_eq_true (by kernel_rfl))) ?_;(conv=>whnf);refine⟨hj1,s++[.mk ok on ot oa],?_,by rw[List.length_append];show s.length+1≤j+1;omega,hQ⟩;rw[eOs_app,eO];exact⟨rfl,rfl,rfl,rfl⟩
 ·have h1:=ix_ff h1 (by rw[hlen]) hj (by omega)
  subst h1;rw[List.drop_length]at hQ;have hQ:s=os:=by simpa[valL] using hQ
  subst hQ;exact⟨.inr rfl,⟨s6,trivial⟩⟩
end MN
open Go Go.AM Go.Proofs TK
set_option maxRecDepth 100000
namespace MN
def goneL (s:List Nat):List (Nat×Cl)→List (Nat×Cl)
 | []=>[]
 |(k,c)::r=>(k,match memB s k with|true=>⟨true,zV⟩|false=>c)::goneL s r
theorem gone_nil:∀M:List (Nat×Cl),goneL [] M=M
 | []=>rfl
 |(k,c)::r=>by rw[goneL,gone_nil r];rfl
theorem gone_congr {s t:List Nat} (h:∀k,memB s k=memB t k):∀M:List (Nat×Cl),goneL s M=goneL t M
 | []=>rfl
 |(k,c)::r=>by rw[goneL,goneL,gone_congr h r,h k]
theorem memB_iff:∀(l:List Nat) (i:Nat),memB l i=true↔i∈l
 | [],i=>by simp[memB]
 |x::r,i=>by
  rw[memB,List.mem_cons]
  cases hb:Nat.beq x i with
  |true=>simp[Nat.eq_of_beq_eq_true hb]
  |false=>
   have:i≠x:=fun e=>by rw[e,Nat.beq_refl]at hb;cases hb
   simp[this,memB_iff r i]
theorem memB_app (s:List Nat) (a k:Nat):memB (s++[a]) k=(memB s k||Nat.beq a k):=by
 induction s with
 |nil=>simp only[List.nil_append,memB,Bool.false_or];cases Nat.beq a k<;>rfl
 |cons x r ih=>
  rw[List.cons_append,memB,memB]
  cases Nat.beq x k with
  |true=>rfl
  |false=>exact ih
theorem gone_set {s:List Nat} {a:Nat}:∀{M:List (Nat×Cl)},(M.map (·.1)).Nodup→tset a ⟨true,zV⟩ (goneL s M)=goneL (s++[a]) M
 | [],_=>rfl
 |(k,c)::r,h=>by
  rw[List.map_cons,List.nodup_cons]at h;rw[goneL,goneL,tset,memB_app]
  cases hb:Nat.beq k a with
  |true=>
   have hk:=Nat.eq_of_beq_eq_true hb;subst hk;rw[Nat.beq_refl,Bool.or_true]
   have:∀{r:List (Nat×Cl)},k∉r.map (·.1)→goneL (s++[k]) r=goneL s r:=by
    intro r
    induction r with
    |nil=>intro _;rfl
    |cons p q ih=>
     obtain⟨k2,c2⟩:=p;intro hn;simp only[List.map_cons,List.mem_cons,not_or]at hn;rw[goneL,goneL,ih hn.2,memB_app,beq_false hn.1,Bool.or_false]
   rw[this h.1]
  |false=>
   have:Nat.beq a k=false:=beq_false fun e=>by rw[e,Nat.beq_refl]at hb;cases hb
   rw[this,Bool.or_false];dsimp only;rw[gone_set h.2]
theorem tlk_gone {s:List Nat} {a:Nat}:∀{M:List (Nat×Cl)},(tlk a M).isSome=true→∃x,tlk a (goneL s M)=some x
 | [],h=>by cases h
 |(k,c)::r,h=>by
  rw[tlk]at h;rw[goneL,tlk]
  cases hb:Nat.beq k a with
  |true=>exact⟨_,rfl⟩
  |false=>rw[hb]at h;exact tlk_gone h
def atS (s:List Nat) (i:Nat):Nat:=(s[i]?).getD 0
def nodupK:List (Nat×Cl)→Bool
 | []=>true
 |(k,_)::r=>!(r.any fun p=>Nat.beq p.1 k)&&nodupK r
theorem nodupK_spec:∀{M:List (Nat×Cl)},nodupK M=true→(M.map (·.1)).Nodup
 | [],_=>List.nodup_nil
 |(k,c)::r,h=>by
  rw[nodupK,Bool.and_eq_true]at h;rw[List.map_cons,List.nodup_cons];refine⟨fun hm=>?_,nodupK_spec h.2⟩;obtain⟨p,hp,e⟩:=List.mem_map.1 hm;have:(r.any fun p=>Nat.beq p.1 k)=true:=List.any_eq_true.2 ⟨p,hp,by rw[e];exact Nat.beq_refl _⟩;rw[this]at h;exact absurd h.1 (by decide)
def leaveV (z:Sto Cl) (y:Sto (List Nat)) (l:List Vl):Option ((List Ov×ByteArray)×Sto Cl×Sto (List Nat)):=match Nat.ble l.length 1000000&&nodupK z.2 with
 |false=>none
 |true=>match gathL (gathF z.2 gN) l [] with
  |none=>none
  |some (false,s)=>some (([],wGone),z,(y.1+1,(y.1,s)::y.2))
  |some (true,s)=>match anyLF z.2 l with
   |none=>none
   |some true=>some (([],wLarge),z,(y.1+1,(y.1,s)::y.2))
   |some false=>match valL (valF z.2 gN) l with
    |none=>none
    |some os=>some ((os,⟨#[]⟩),(z.1,goneL s z.2),(y.1+1,(y.1,s)::y.2))
theorem leaveV_spec (z:Sto Cl) (y:Sto (List Nat)) (l:List Vl) (R:(List Ov×ByteArray)×Sto Cl×Sto (List Nat)) (hF:leaveV z y l=some R):
 AMem Tryz.prog 260 [.p (.sl 5 (eVs l))] [(1000000000,hCl z),(1000000001,hGm y)] (.tup [.p (.sl 4 (eOs R.1.1)),.p (.s R.1.2)]) [(1000000000,hCl R.2.1),(1000000001,hGm R.2.2)]:=by
 unfold leaveV at hF
 cases hbl:Nat.ble l.length 1000000&&nodupK z.2 with
 |false=>rw[hbl]at hF;cases hF
 |true=>
  rw[hbl]at hF;rw[Bool.and_eq_true]at hbl;have hl:=Nat.le_of_ble_eq_true hbl.1;have hnd:=nodupK_spec hbl.2;dsimp only at hF
  cases hg:gathL (gathF z.2 gN) l [] with
  |none=>rw[hg]at hF;cases hF
  |some q=>
   obtain⟨b,s⟩:=q;rw[hg]at hF;have c1:=gatherAll_spec z y l b s hl hg;have hal:=gathL_alive (gathF_alive gN) l [] b s (fun _ h=>by cases h) hg;have c2:=fun b=>anyLarge_spec z l b hl;have c3:=fun os=>values_spec z gN l os hl;unfold hCl hGm at *
   cases b with
   |false=>
    cases hF;dsimp only[gRes]at c1;refine AMem.intro (tyOf_ok Tryz.prog) hmix Tryz.func260 rfl (by rfl) (by kernel_rfl) (by show 1≤_;decide) rfl ?_;(conv=>whnf);refine amc [1000000000,1000000001] 300 c1 ?_;(conv=>whnf);exact⟨.inl rfl,⟨s6,s6,trivial⟩⟩
   |true=>
    dsimp only[gRes]at c1 hF
    cases hA:anyLF z.2 l with
    |none=>rw[hA]at hF;cases hF
    |some bl=>
     rw[hA]at hF;have c2:=c2 bl hA
     cases bl with
     |true=>
      cases hF;refine AMem.intro (tyOf_ok Tryz.prog) hmix Tryz.func260 rfl (by rfl) (by kernel_rfl) (by show 1≤_;decide) rfl ?_;(conv=>whnf);refine amc [1000000000,1000000001] 300 c1 ?_;(conv=>whnf);refine amc [1000000000] 300 c2 ?_;(conv=>whnf);exact⟨.inl rfl,⟨s6,s6,trivial⟩⟩
     |false=>
      dsimp only at hF
      cases hV:valL (valF z.2 gN) l with
      |none=>rw[hV]at hF;cases hF
      |some os=>
       rw[hV]at hF;cases hF;have c3:=c3 os hV;have hty:tlk y.1 ((y.1,s)::y.2)=some s:=by rw[tlk,Nat.beq_refl]
       refine AMem.introS (tyOf_ok Tryz.prog) Tryz.func260 rfl (by rfl) (by show 1≤_;decide) rfl ?_;refine AWp.cut (tyOf_ok Tryz.prog) hmix (by kernel_rfl) 4 [2,4] [1000000000,1000000001] (fun _:Unit=>[.p (.sl 4 (eOs os)),.p (.amp gS y.1)]) (fun _=>[.store 212 true cS z.1 6 (enM eCl z.2),.store 344 true gS (y.1+1) 0 (enM eG ((y.1,s)::y.2))]) (fun _=>True) ?_ ?_
       ·conv=>whnf
        refine amc [1000000000,1000000001] 300 c1 ?_;(conv=>whnf);refine amc [1000000000] 300 c2 ?_;(conv=>whnf);refine amc [1000000000] 300 c3 ?_;(conv=>whnf);exact⟨(),⟨rfl,rfl,rfl,rfl⟩,trivial⟩
       ·rintro _ -
        refine AWp.seq ?_
        refine AWp.rng (tyOf_ok Tryz.prog) hmix (kt:=137) (et:=4) (σ:=List (Nat×Cl)) (N:=s.length) (TT:=344) (sp:=gS) (q:=y.1) 1 1000000001 [2] [1000000000,1000000001] (fun _ _=>[.p (.sl 4 (eOs os))])
         (fun _ M=>[.store 212 true cS z.1 6 (enM eCl M),.store 344 true gS (y.1+1) 0 (enM eG ((y.1,s)::y.2))]) (fun seen M=>M=goneL (seen.map (atS s)) z.2∧seen.Nodup∧∀i∈seen,i<s.length) (fun _ _=>s.map gpair)
         ⟨rfl,rfl,rfl,rfl,rfl⟩ (by kernel_rfl) (by kernel_rfl) (fun _ _ _ _ h=>h) ⟨rfl,rfl,rfl⟩ ⟨rfl,rfl,rfl⟩ ⟨rfl,rfl,rfl⟩ (by decide) (by decide) ⟨rfl,rfl,rfl,rfl⟩ (by kernel_rfl) (by kernel_rfl) (by decide) ?_ ?_ ?_ ?_
        ·conv=>whnf
         exact⟨rfl,z.2,Tl.of ⟨rfl,rfl,rfl,rfl⟩,(gone_nil _).symm,List.nodup_nil,by simp⟩
        ·rintro seen M ⟨rfl,_,_⟩
         exact⟨⟨_,_,rfl,slk_in (enc:=eG) hty⟩,by simp⟩
        ·rintro seen M ⟨rfl,h1,h2⟩ h3
         have hall:∀k,memB (seen.map (atS s)) k=memB s k:=by
          intro k;rw[Bool.eq_iff_iff,memB_iff,memB_iff,List.mem_map]
          constructor
          ·rintro⟨i,hi,rfl⟩
           have:=h2 i hi;rw[atS,List.getElem?_eq_getElem this];exact List.getElem_mem this
          ·intro hk
           obtain⟨i,hi,e⟩:=List.getElem_of_mem hk;refine⟨i,?_,by rw[atS,List.getElem?_eq_getElem hi];exact e⟩;refine Classical.byContradiction fun hc=>?_;have:=nodup_le s.length (i::seen) (List.nodup_cons.2 ⟨hc,h1⟩) (fun a ha=>by rcases List.mem_cons.1 ha with rfl|ha;exact hi;exact h2 a ha);rw[List.length_cons]at this;omega
         rw[gone_congr hall];refine AWp.fin (tyOf_ok Tryz.prog) hmix (by kernel_rfl) ?_;(conv=>whnf);exact⟨.inl rfl,⟨s6,s6,trivial⟩⟩
        ·rintro B seen M j x ⟨rfl,h1,h2⟩ hj hjs hlt hx
         obtain⟨a,ha⟩:∃a,s[j]?=some a:=⟨_,List.getElem?_eq_getElem hj⟩
         have hx':x=gpair a:=by
          rw[List.getElem?_map,ha]at hx;cases hx;rfl
         subst hx';obtain⟨c,hc⟩:=tlk_gone (s:=seen.map (atS s)) (hal a (List.mem_of_getElem? ha));have hat:atS s j=a:=by rw[atS,ha];rfl
         obtain⟨cg,⟨wk,wn,wt,wa,wc⟩⟩:=c;unfold gpair;(conv=>whnf);refine aneed ⟨rfl,by decide,.inl rfl⟩ ?_;refine⟨_,slk_in hc,?_⟩;refine aidxn (i:=0) rfl ?_;(conv=>whnf);refine aneed ⟨rfl,by decide,.inl rfl⟩ ?_;refine⟨_,slk_sset (slk_in hc),?_⟩;refine aidxn (i:=0) rfl ?_;(conv=>whnf);rw[sset_sset];refine⟨goneL ((seen++[j]).map (atS s)) z.2,Tl.of ⟨?_,rfl,rfl,rfl⟩,rfl,?_,?_⟩
         ·show [some (AObj.store _ _ _ _ _ (sset a (eCl ⟨true,zV⟩) (enM eCl _))),_]=_
          rw[sset_en,gone_set hnd,show goneL (seen.map (atS s)++[a]) z.2=goneL ((seen++[j]).map (atS s)) z.2 from by rw[List.map_append,List.map_cons,hat];rfl];rfl
         ·rw[List.nodup_append]
          exact⟨h1,by simp,fun i hi k hk=>by simp at hk;subst hk;exact fun e=>hjs (e ▸ hi)⟩
         ·intro i hi
          rcases List.mem_append.1 hi with hi|hi
          ·exact h2 i hi
          ·simp at hi;subst hi;exact hj
end MN
