/- Contracts, and the law, for every input. No conditions. -/
import Derived.Test.YtdmopjgjhfhfdaaGreatDoorAMX
import Derived.Test.YtdmopjgjhfhfdaaGreatDoorAMRngD
import Derived.Test.YtdmopjgjhfhfdaaGreatDoorPAR
set_option linter.all false
section
namespace Go.AM
section
variable {ty:Nat→Option TI} {f:ef} {K:AK}
theorem I4 {o:Oper} {e:Env} {t:Nat} {mv:Nat→Bool} (hx:GG o e t mv=some f) (hk:K f):Ai o e t mv K:=by
 unfold GG at hx;unfold Ai
 repeat' split at hx
 all_goals (try (cases hx;done))
 all_goals (try simp only[*])
 all_goals first|exact hk|(cases hx;exact hk)|exact aD hx hk|exact aZ hx hk|exact⟨(aC hx).1,aD (aC hx).2 hk⟩|exact⟨(aC hx).1,aZ (aC hx).2 hk⟩|(have h2:=(aC hx).2;cases h2;exact⟨(aC hx).1,hk⟩)|exact cv (by assumption) (aD hx hk)|exact cv (by assumption) (aZ hx hk)|exact fD (by assumption) (aD hx hk)|exact dK (by assumption) (aD hx hk)|(rename_i l1 he;erw [he];exact aD hx hk)|(rename_i v he;erw [ey he];exact aD hx hk)
theorem Iu {o:Oper} {h:Heap} {t:Nat} {a:AV} {mv:Nat→Bool} (hx:Kr ty o h t a mv=some f) (hk:K f):CI ty o h t a mv K:=by
 unfold Kr at hx;unfold CI
 repeat' split at hx
 all_goals (try (cases hx;done))
 all_goals (try simp only[*])
 all_goals first|exact hk|(cases hx;exact hk)|exact aD hx hk|exact aZ hx hk|exact⟨(aC hx).1,aD (aC hx).2 hk⟩|exact⟨(aC hx).1,aZ (aC hx).2 hk⟩|(have h2:=(aC hx).2;cases h2;exact⟨(aC hx).1,hk⟩)|exact cv (by assumption) (aD hx hk)|exact cv (by assumption) (aZ hx hk)|exact fD (by assumption) (aD hx hk)|exact dK (by assumption) (aD hx hk)|(rename_i l1 he;erw [he];exact aD hx hk)|(rename_i v he;erw [ey he];exact aD hx hk)
theorem H7 {e:Env} {h:Heap} {t:Nat} {a:AV} {y:Operand} (hx:EH ty e h t a y=some f) (hk:K f):xg ty e h t a y K:=by
 unfold EH at hx;unfold xg
 repeat' split at hx
 all_goals (try (cases hx;done))
 all_goals (try simp only[*])
 all_goals first|exact hk|(cases hx;exact hk)|exact aD hx hk|exact aZ hx hk|exact⟨(aC hx).1,aD (aC hx).2 hk⟩|exact⟨(aC hx).1,aZ (aC hx).2 hk⟩|(have h2:=(aC hx).2;cases h2;exact⟨(aC hx).1,hk⟩)|exact cv (by assumption) (aD hx hk)|exact cv (by assumption) (aZ hx hk)|exact fD (by assumption) (aD hx hk)|exact dK (by assumption) (aD hx hk)|(rename_i l1 he;erw [he];exact aD hx hk)|(rename_i v he;erw [ey he];exact aD hx hk)
theorem HH {o:Oper} {e:Env} {t:Nat} {parts:List (Nat×Operand)} (hx:Es ty o e t parts=some f) (hk:K f):yb ty o e t parts K:=by
 unfold Es at hx;unfold yb
 repeat' split at hx
 all_goals (try (cases hx;done))
 all_goals (try simp only[*])
 all_goals first|exact hk|(cases hx;exact hk)|exact aD hx hk|exact aZ hx hk|exact⟨(aC hx).1,aD (aC hx).2 hk⟩|exact⟨(aC hx).1,aZ (aC hx).2 hk⟩|(have h2:=(aC hx).2;cases h2;exact⟨(aC hx).1,hk⟩)|exact cv (by assumption) (aD hx hk)|exact cv (by assumption) (aZ hx hk)|exact fD (by assumption) (aD hx hk)|exact dK (by assumption) (aD hx hk)|(rename_i l1 he;erw [he];exact aD hx hk)|(rename_i v he;erw [ey he];exact aD hx hk)
theorem wZ {o:Oper} {e:Env} {h:Heap} {t len:Nat} {parts:List (Nat×Operand)} (hx:oY ty o e h t len parts=some f) (hk:K f):jO ty o e h t len parts K:=by
 unfold oY at hx;unfold jO
 repeat' split at hx
 all_goals (try (cases hx;done))
 all_goals (try simp only[*])
 all_goals first|exact hk|(cases hx;exact hk)|exact aD hx hk|exact aZ hx hk|exact⟨(aC hx).1,aD (aC hx).2 hk⟩|exact⟨(aC hx).1,aZ (aC hx).2 hk⟩|(have h2:=(aC hx).2;cases h2;exact⟨(aC hx).1,hk⟩)|exact cv (by assumption) (aD hx hk)|exact cv (by assumption) (aZ hx hk)|exact fD (by assumption) (aD hx hk)|exact dK (by assumption) (aD hx hk)|(rename_i l1 he;erw [he];exact aD hx hk)|(rename_i v he;erw [ey he];exact aD hx hk)
theorem Ni {o:Oper} {op:UnOp} {x:AV} (hx:Pn o op x=some f) (hk:K f):NQ o op x K:=by
 unfold Pn at hx;unfold NQ
 repeat' split at hx
 all_goals (try (cases hx;done))
 all_goals (try simp only[*])
 all_goals first|exact hk|(cases hx;exact hk)|exact aD hx hk|exact aZ hx hk|exact⟨(aC hx).1,aD (aC hx).2 hk⟩|exact⟨(aC hx).1,aZ (aC hx).2 hk⟩|(have h2:=(aC hx).2;cases h2;exact⟨(aC hx).1,hk⟩)|exact cv (by assumption) (aD hx hk)|exact cv (by assumption) (aZ hx hk)|exact fD (by assumption) (aD hx hk)|exact dK (by assumption) (aD hx hk)|(rename_i l1 he;erw [he];exact aD hx hk)|(rename_i v he;erw [ey he];exact aD hx hk)
theorem KN {o:Oper} {op:BinOp} {t:Nat} {x y:AV} (hx:NC ty o op t x y=some f) (hk:K f):IT ty o op t x y K:=by
 unfold NC at hx;unfold IT
 repeat' split at hx
 all_goals (try (cases hx;done))
 all_goals (try simp only[*])
 all_goals first|exact hk|(cases hx;exact hk)|exact aD hx hk|exact aZ hx hk|exact⟨(aC hx).1,aD (aC hx).2 hk⟩|exact⟨(aC hx).1,aZ (aC hx).2 hk⟩|(have h2:=(aC hx).2;cases h2;exact⟨(aC hx).1,hk⟩)|exact cv (by assumption) (aD hx hk)|exact cv (by assumption) (aZ hx hk)|exact fD (by assumption) (aD hx hk)|exact dK (by assumption) (aD hx hk)|(rename_i l1 he;erw [he];exact aD hx hk)|(rename_i v he;erw [ey he];exact aD hx hk)
theorem Il {o:Oper} {t:Nat} {x ix:AV} (hx:FK ty o t x ix=some f) (hk:K f):xT ty o t x ix K:=by
 unfold FK at hx;unfold xT
 repeat' split at hx
 all_goals (try (cases hx;done))
 all_goals (try simp only[*])
 all_goals first|exact hk|(cases hx;exact hk)|exact aD hx hk|exact aZ hx hk|exact⟨(aC hx).1,aD (aC hx).2 hk⟩|exact⟨(aC hx).1,aZ (aC hx).2 hk⟩|(have h2:=(aC hx).2;cases h2;exact⟨(aC hx).1,hk⟩)|exact cv (by assumption) (aD hx hk)|exact cv (by assumption) (aZ hx hk)|exact fD (by assumption) (aD hx hk)|exact dK (by assumption) (aD hx hk)|(rename_i l1 he;erw [he];exact aD hx hk)|(rename_i v he;erw [ey he];exact aD hx hk)
theorem zi {o:Oper} {t:Nat} {x ix:AV} {h:Heap} (hx:rT ty o t x ix h=some f) (hk:K f):lf ty o t x ix h K:=by
 unfold rT at hx;unfold lf
 repeat' split at hx
 all_goals (try (cases hx;done))
 all_goals (try simp only[*])
 all_goals first|exact hk|(cases hx;exact hk)|exact aD hx hk|exact aZ hx hk|exact⟨(aC hx).1,aD (aC hx).2 hk⟩|exact⟨(aC hx).1,aZ (aC hx).2 hk⟩|(have h2:=(aC hx).2;cases h2;exact⟨(aC hx).1,hk⟩)|exact cv (by assumption) (aD hx hk)|exact cv (by assumption) (aZ hx hk)|exact fD (by assumption) (aD hx hk)|exact dK (by assumption) (aD hx hk)|(rename_i l1 he;erw [he];exact aD hx hk)|(rename_i v he;erw [ey he];exact aD hx hk)
theorem KT {o:Oper} {t:Nat} {x:AV} {h:Heap} (hx:M9 ty o t x h=some f) (hk:K f):JW ty o t x h K:=by
 unfold M9 at hx;unfold JW
 repeat' split at hx
 all_goals (try (cases hx;done))
 all_goals (try simp only[*])
 all_goals first|exact hk|(cases hx;exact hk)|exact aD hx hk|exact aZ hx hk|exact⟨(aC hx).1,aD (aC hx).2 hk⟩|exact⟨(aC hx).1,aZ (aC hx).2 hk⟩|(have h2:=(aC hx).2;cases h2;exact⟨(aC hx).1,hk⟩)|exact cv (by assumption) (aD hx hk)|exact cv (by assumption) (aZ hx hk)|exact fD (by assumption) (aD hx hk)|exact dK (by assumption) (aD hx hk)|(rename_i l1 he;erw [he];exact aD hx hk)|(rename_i v he;erw [ey he];exact aD hx hk)
theorem E7 {o:Oper} {e:Env} {h:Heap} {t t2:Nat} {x:Operand} {y:AV} (hx:B8 ty o e h t t2 x y=some f) (hk:K f):tu ty o e h t t2 x y K:=by
 unfold B8 at hx;unfold tu
 repeat' split at hx
 all_goals (try (cases hx;done))
 all_goals (try simp only[*])
 all_goals first|exact hk|(cases hx;exact hk)|exact aD hx hk|exact aZ hx hk|exact⟨(aC hx).1,aD (aC hx).2 hk⟩|exact⟨(aC hx).1,aZ (aC hx).2 hk⟩|(have h2:=(aC hx).2;cases h2;exact⟨(aC hx).1,hk⟩)|exact cv (by assumption) (aD hx hk)|exact cv (by assumption) (aZ hx hk)|exact fD (by assumption) (aD hx hk)|exact dK (by assumption) (aD hx hk)|(rename_i l1 he;erw [he];exact aD hx hk)|(rename_i v he;erw [ey he];exact aD hx hk)
theorem zT {o:Oper} {e:Env} {t:Nat} {x:AV} {lo hi:Option Operand} (hx:wW ty o e t x lo hi=some f) (hk:K f):rI ty o e t x lo hi K:=by
 unfold wW at hx;unfold rI;simp only[Lx]at hx
 repeat' split at hx
 all_goals (try (cases hx;done))
 all_goals (try simp only[*])
 all_goals first|exact hk|(cases hx;exact hk)|exact aD hx hk|exact aZ hx hk|exact⟨(aC hx).1,aD (aC hx).2 hk⟩|exact⟨(aC hx).1,aZ (aC hx).2 hk⟩|(have h2:=(aC hx).2;cases h2;exact⟨(aC hx).1,hk⟩)|exact cv (by assumption) (aD hx hk)|exact cv (by assumption) (aZ hx hk)|exact fD (by assumption) (aD hx hk)|exact dK (by assumption) (aD hx hk)|(rename_i l1 he;erw [he];exact aD hx hk)|(rename_i v he;erw [ey he];exact aD hx hk)
theorem E3 {o:Oper} {e:Env} {t s sz:Nat} {xs:List PV} {lo:Option Operand} (hx:Bl ty o e t s sz xs lo=some f) (hk:K f):tF ty o e t s sz xs lo K:=by
 unfold Bl at hx;unfold tF
 repeat' split at hx
 all_goals (try (cases hx;done))
 all_goals (try simp only[*])
 all_goals first|exact hk|(cases hx;exact hk)|exact aD hx hk|exact aZ hx hk|exact⟨(aC hx).1,aD (aC hx).2 hk⟩|exact⟨(aC hx).1,aZ (aC hx).2 hk⟩|(have h2:=(aC hx).2;cases h2;exact⟨(aC hx).1,hk⟩)|exact cv (by assumption) (aD hx hk)|exact cv (by assumption) (aZ hx hk)|exact fD (by assumption) (aD hx hk)|exact dK (by assumption) (aD hx hk)|(rename_i l1 he;erw [he];exact aD hx hk)|(rename_i v he;erw [ey he];exact aD hx hk)
theorem Hi {o:Oper} {si i:TI} {v:AV} (hx:Ec ty o si i v=some f) (hk:K f):w9 ty o si i v K:=by
 unfold Ec at hx;unfold w9
 repeat' split at hx
 all_goals (try (cases hx;done))
 all_goals (try simp only[*])
 all_goals first|exact hk|(cases hx;exact hk)|exact aD hx hk|exact aZ hx hk|exact⟨(aC hx).1,aD (aC hx).2 hk⟩|exact⟨(aC hx).1,aZ (aC hx).2 hk⟩|(have h2:=(aC hx).2;cases h2;exact⟨(aC hx).1,hk⟩)|exact cv (by assumption) (aD hx hk)|exact cv (by assumption) (aZ hx hk)|exact fD (by assumption) (aD hx hk)|exact dK (by assumption) (aD hx hk)|(rename_i l1 he;erw [he];exact aD hx hk)|(rename_i v he;erw [ey he];exact aD hx hk)
end
end Go.AM
end
section
namespace Go.AM
section
variable {ty:Nat→Option TI} {call:Nat→List AV→Heap→Option (List Nat×Heap×AV)} {pc:Nat→List AV→Heap→(List Nat→Heap→AV→Prop)→Prop} {f:ef} {K:AK}
theorem Lq (hc:∀g l H rd hw r,call g l H=some (rd,hw,r)→∀K:List Nat→Heap→AV→Prop,K rd hw r→pc g l H K) {mv:Nat→Bool} {o:Oper} {e:Env} {h:Heap} (hx:MZ ty call mv o e h=some f) (hk:K f):Ja ty pc mv o e h K:=by
 unfold MZ at hx;unfold Ja;split at hx
 all_goals (try (cases hx;done))
 all_goals (rename_i ho)
 all_goals (try simp only[ho])
 all_goals first|exact I4 hx hk|exact aD hx hk|exact HH hx hk|exact wZ hx hk|exact Iu hx hk|exact H7 hx hk|exact KN hx hk|exact Ni hx hk|exact zi hx hk|exact KT hx hk|exact E7 hx hk|exact Il hx hk|exact zT hx hk|skip
 all_goals (repeat' split at hx)
 all_goals (try (cases hx;done))
 all_goals (try simp only[*])
 all_goals first|exact hk|(cases hx;exact hk)|exact aD hx hk|exact Hi hx hk|exact E3 hx hk|exact zT hx hk|exact hc _ _ _ _ _ _ (by assumption) _ (J2 hx hk)|skip
end
end Go.AM
end
section
namespace Go.AM
section
variable {α β:Type}
noncomputable def fN (n:Nat) (K:Nat→α):α:=@Nat.rec (fun _=>(Nat→α)→α) (fun K=>K 0) (fun m _ K=>K (Nat.succ m)) n K
noncomputable def fI (i:Int) (K:Int→α):α:=match i with
 |.ofNat n=>fN n fun n=>K (.ofNat n)
 |.negSucc n=>fN n fun n=>K (.negSucc n)
noncomputable def fB (b:Bool) (K:Bool→α):α:=match b with
 |true=>K true
 |false=>K false
noncomputable def fL (l:List β) (K:List β→α):α:=@List.rec β (fun _=>(List β→α)→α) (fun K=>K []) (fun x _ ih K=>ih fun r=>K (x::r)) l K
noncomputable def fP (v:PV) (K:PV→α):α:=match v with
 |.i k n=>fI n fun n=>K (.i k n)
 |.b b=>fB b fun b=>K (.b b)
 |.s ⟨⟨l⟩⟩=>fL l fun l=>K (.s ⟨⟨l⟩⟩)
 |.sl z xs=>fN z fun z=>fL xs fun xs=>K (.sl z xs)
 |.agg xs=>fL xs fun xs=>K (.agg xs)
 |v=>K v
noncomputable def OI (v:AV) (K:AV→α):α:=match v with
 |.p x=>fP x fun x=>K (.p x)
 |.so z xs=>fN z fun z=>fL xs fun xs=>K (.so z xs)
 |.ptr l off=>fN l fun l=>fN off fun off=>K (.ptr l off)
 |v=>K v
noncomputable def Md (l:List AV) (K:List AV→α):α:=@List.rec AV (fun _=>(List AV→α)→α) (fun K=>K []) (fun x _ ih K=>OI x fun x=>ih fun r=>K (x::r)) l K
noncomputable def fV (v:AV) (K:AV→α):α:=match v with
 |.agg cs=>Md cs fun cs=>K (.agg cs)
 |.cz cs=>Md cs fun cs=>K (.cz cs)
 |.fn f a b=>Md a fun a=>Md b fun b=>K (.fn f a b)
 |v=>OI v K
noncomputable def fE (l:Env) (K:Env→α):α:=@List.rec (Nat×AV) (fun _=>(Env→α)→α) (fun K=>K []) (fun x _ ih K=>match x with
 |(d,v)=>fV v fun v=>ih fun r=>K ((d,v)::r)) l K
noncomputable def fO (o:bq) (K:bq→α):α:=match o with
 |.cells cs=>Md cs fun cs=>K (.cells cs)
 |o=>K o
noncomputable def fH (l:Heap) (K:Heap→α):α:=@List.rec (Nat×bq) (fun _=>(Heap→α)→α) (fun K=>K []) (fun x _ ih K=>match x with
 |(d,v)=>fN d fun d=>fO v fun v=>ih fun r=>K ((d,v)::r)) l K
noncomputable def OV (l:List Nat) (K:List Nat→α):α:=@List.rec Nat (fun _=>(List Nat→α)→α) (fun K=>K []) (fun x _ ih K=>fN x fun x=>ih fun r=>K (x::r)) l K
noncomputable def fF (b:Bool) (f:ef) (K:ef→α):α:=match b with
 |true=>K f
 |false=>match f with
  |⟨rd,ew,hw⟩=>fE ew fun ew=>K ⟨rd,ew,hw⟩
theorem Dt (n:Nat) (K:Nat→α):fN n K=K n:=by cases n<;>rfl
theorem OF (n:Int) (K:Int→α):fI n K=K n:=by cases n<;>exact Dt _ _
theorem OL (n:Bool) (K:Bool→α):fB n K=K n:=by cases n<;>rfl
theorem FU:∀(l:List β) (K:List β→α),fL l K=K l
 | [],_=>rfl
 |x::r,K=>FU r (fun r=>K (x::r))
theorem NS (v:PV) (K:PV→α):fP v K=K v:=by
 unfold fP;split<;>simp only[Dt,OF,OL,FU]
theorem JB (v:AV) (K:AV→α):OI v K=K v:=by
 unfold OI;split<;>simp only[Dt,NS,FU]
theorem BV:∀(l:List AV) (K:List AV→α),Md l K=K l
 | [],_=>rfl
 |x::r,K=>by
  show OI x (fun x=>Md r fun r=>K (x::r))=_;rw[JB,BV r]
theorem Jw (v:AV) (K:AV→α):fV v K=K v:=by
 unfold fV;split<;>simp only[BV,JB]
theorem Mh:∀(l:Env) (K:Env→α),fE l K=K l
 | [],_=>rfl
 |(d,v)::r,K=>by
  show fV v (fun v=>fE r fun r=>K ((d,v)::r))=_;rw[Jw,Mh r]
theorem OA (o:bq) (K:bq→α):fO o K=K o:=by
 unfold fO;split<;>simp only[BV]
theorem Ma:∀(l:Heap) (K:Heap→α),fH l K=K l
 | [],_=>rfl
 |(d,v)::r,K=>by
  show fN d (fun d=>fO v fun v=>fH r fun r=>K ((d,v)::r))=_;rw[Dt,OA,Ma r]
theorem D5:∀(l:List Nat) (K:List Nat→α),OV l K=K l
 | [],_=>rfl
 |x::r,K=>by
  show fN x (fun x=>OV r fun r=>K (x::r))=_;rw[Dt,D5 r]
theorem NV (b:Bool) (f:ef) (K:ef→α):fF b f K=K f:=by
 unfold fF;split
 ·rfl
 ·simp only[Mh]
def PX (o:Oper):Bool:=match o.op with
 |.move _=>true
 |.assign _=>true
 |.load ..=>true
 |_=>false
def wR:List (Nat×β)→List (Nat×β)→(List (Nat×β)→α)→α
 | [],e,K=>K e
 |x::r,e,K=>wR r (x::e) K
theorem yM:∀(r e:List (Nat×β)) (K:List (Nat×β)→α),wR r e K=K (r.reverse++e)
 | [],e,K=>rfl
 |x::r,e,K=>by rw[wR,yM r];simp
end
section
variable (ty:Nat→Option TI) (call:Nat→List AV→Heap→Option (List Nat×Heap×AV))
def OP (mv:Nat→Bool) (o:Oper) (e:Env) (h:Heap):Option ef:=match J3 ty o e with
 |true=>none
 |false=>MZ ty call mv o e h
def A3 (ops:List Oper) (o:Oper) (e:Env):Option (Bool×Env):=match o.guard with
 |none=>some (true,e)
 |some (j,want)=>match ops[j]? with
  |some og=>match og.dst with
   |some d=>match aK e d with
    |.p (.b g)=>some (Ld g want,(d,.p (.b g))::e)
    |.cz []=>some (false,e)
    |_=>none
   |none=>none
  |none=>none
def Kb (o:Oper) (e:Env):Env:=match o.dst with
 |some d=>(d,.cz [])::e
 |none=>e
noncomputable def HM (all l:List Oper):Env→Heap→List (Option ef)→Option (Env×Heap×List (Option ef)):=
 @List.rec Oper (fun _=>Env→Heap→List (Option ef)→Option (Env×Heap×List (Option ef)))
  (fun e h rs=>some (e,h,rs))
  (fun o _ ih e h rs=>match A3 all o e with
    |some (true,e)=>match OP ty call (oH all) o e h with
     |some f=>fF (PX o) f fun f=>wR f.ew e fun e=>wR f.hw h fun h=>ih e h (some f::rs)
     |none=>none
    |some (false,e)=>ih (Kb o e) h (none::rs)
    |none=>none) l
theorem HL (all:List Oper) (o:Oper) (r:List Oper) (e:Env) (h:Heap) (rs:List (Option ef)):HM ty call all (o::r) e h rs=match A3 all o e with
 |some (true,e)=>match OP ty call (oH all) o e h with
  |some f=>fF (PX o) f fun f=>wR f.ew e fun e=>wR f.hw h fun h=>HM ty call all r e h (some f::rs)
  |none=>none
 |some (false,e)=>HM ty call all r (Kb o e) h (none::rs)
 |none=>none:=rfl
def Lo (draw:Bool) (ops:List Oper):Option (Env×Heap×List (Option ef))→Option (Exit×Env×Heap)
 |none=>none
 |some (e,h,rs)=>match draw with
  |false=>some (.normal,e,h)
  |true=>match Ki ops rs with
   |true=>some (.normal,e,h)
   |false=>none
def KZ (id:Nat):Option (Exit×Env×Heap)→Option (Exit×Env×Heap)
 |some (.exit i,e,h)=>match Nat.beq i id with
  |true=>some (.normal,e,h)
  |false=>some (.exit i,e,h)
 |x=>x
noncomputable def OC (c:Code):List Nat:=
 @Code.rec (fun _=>List Nat) [] (fun _ ops _=>ops.toList.filterMap (·.dst)) (fun _ _ a b=>a++b) (fun _ _ _ a b=>a++b) (fun _ _ a=>a) (fun _ a=>a) (fun _ _ _ _ _ _=>[]) (fun _=>[]) (fun _ _=>[]) (fun _=>[]) (fun _=>[]) [] (fun _=>[]) c
noncomputable def Fg (d:Nat→Bool) (l:Env):Nat→Env:=
 @List.rec (Nat×AV) (fun _=>Nat→Env) (fun _=>[]) (fun x _ ih s=>match Nat.testBit s x.1 with
  |true=>ih s
  |false=>match x.2.within d with
   |true=>x::ih (Nat.lor s (Nat.pow 2 x.1))
   |false=>ih (Nat.lor s (Nat.pow 2 x.1))) l
def AR (d:Nat→Bool) (K:List Nat):Heap→Heap
 | []=>[]
 |(l,o)::r=>match bA K l||d l with
  |true=>AR d K r
  |false=>(l,o)::AR d (l::K) r
def P0 (D:List Nat) (h:Heap):Heap:=AR (bA D) [] h
noncomputable def OS (c:Code) (e:Env) (h:Heap):Option (Env×Heap):=
 fL (P0 (OC c) h) fun h'=>OV (aL h') fun ks=>match mz (bA ks) h' with
 |true=>fL (Fg (bA ks) e 0) fun e=>some (e,h')
 |false=>none
noncomputable def qE (k:Nat):Code→Env→Heap→Option (Exit×Env×Heap):=
 @Nat.rec (fun _=>Code→Env→Heap→Option (Exit×Env×Heap)) (fun _ _ _=>none)
  (fun _ ih c0=>@Code.rec (fun _=>Env→Heap→Option (Exit×Env×Heap))
    (fun e h=>some (.normal,e,h))
    (fun _ ops draw e h=>Lo draw ops.toList (HM ty call ops.toList ops.toList e h []))
    (fun _ _ iha ihb e h=>match iha e h with
      |some (.normal,e,h)=>ihb e h
      |x=>x)
    (fun c _ _ iha ihb e h=>match ev e c with
      |.p (.b true)=>iha e h
      |.p (.b false)=>ihb e h
      |_=>none)
    (fun id _ ihc e h=>KZ id (ihc e h))
    (fun c ihc e h=>match ihc e h with
      |some (.normal,e,h)=>match OS c e h with
       |some (e,h)=>ih (.loop c) e h
       |none=>none
      |x=>x)
    (fun _ _ _ _ _ _ _ _=>none)
    (fun i e h=>some (.exit i,e,h))
    (fun _ _ _ _=>none) (fun _ _ _=>none) (fun _ _ _=>none)
    (fun e h=>some (.ret,e,h))
    (fun _ _ _=>none) c0) k
end
section
variable {ty:Nat→Option TI} {call:Nat→List AV→Heap→Option (List Nat×Heap×AV)} {pc:Nat→List AV→Heap→(List Nat→Heap→AV→Prop)→Prop}
theorem Jr (hc:∀g l H rd hw r,call g l H=some (rd,hw,r)→∀K:List Nat→Heap→AV→Prop,K rd hw r→pc g l H K) {mv:Nat→Bool} {o:Oper} {e:Env} {h:Heap} {f:ef} {K:AK} (hx:OP ty call mv o e h=some f) (hk:K f):KP ty pc mv o e h K:=by
 unfold OP at hx;unfold KP
 cases hd:J3 ty o e with
 |true=>rw[hd]at hx;cases hx
 |false=>rw[hd]at hx;exact Lq hc hx hk
theorem p8 {ops:List Oper} {o:Oper} {e e1:Env} {b:Bool} {S X:Env→Prop} (hx:A3 ops o e=some (b,e1)) (hk:match b with|true=>X e1|false=>S e1):guardOf ops o e S X:=by
 unfold A3 at hx;unfold guardOf
 cases hg:o.guard with
 |none=>rw[hg]at hx;cases hx;exact hk
 |some p=>
  obtain⟨j,want⟩:=p;rw[hg]at hx;dsimp only at hx ⊢;split at hx
  ·rename_i og h1
   rw[h1];dsimp only;split at hx
   ·rename_i d h2
    rw[h2];dsimp only;split at hx
    ·rename_i g h3
     rw[h3];dsimp only;cases hx
     cases g<;>cases want<;>exact hk
    ·rename_i h3
     rw[h3];cases hx;exact hk
    ·cases hx
   ·cases hx
  ·cases hx
theorem Ca (hc:∀g l H rd hw r,call g l H=some (rd,hw,r)→∀K:List Nat→Heap→AV→Prop,K rd hw r→pc g l H K) (all:List Oper):∀(l:List Oper) (e:Env) (h:Heap) (rs:List (Option ef)) {e':Env} {h':Heap} {rs':List (Option ef)},HM ty call all l e h rs=some (e',h',rs')→
 (∀K:Env→Heap→Prop,K e' h'→zO ty pc all l e h K)∧(∀K:Env→Heap→List (Option ef)→Prop,K e' h' rs'→xQ ty pc all l e h rs K)
 | [],e,h,rs,e',h',rs',hx=>by cases hx;exact⟨fun _ hk=>hk,fun _ hk=>hk⟩
 |o::r,e,h,rs,e',h',rs',hx=>by
  rw[HL]at hx;split at hx
  ·rename_i e1 hg
   split at hx
   ·rename_i f hf
    rw[NV,yM,yM]at hx;obtain⟨k1,k2⟩:=Ca hc all r _ _ _ hx;refine⟨fun K hk=>?_,fun K hk=>?_⟩
    ·rw[pX]
     refine p8 hg ?_;refine Jr hc hf ?_;rw[kF,kE];exact k1 K hk
    ·rw[rm]
     refine p8 hg ?_;refine Jr hc hf ?_;rw[kF,kE];exact k2 K hk
   ·cases hx
  ·rename_i e1 hg
   obtain⟨k1,k2⟩:=Ca hc all r _ _ _ hx;unfold Kb at k1 k2;refine⟨fun K hk=>?_,fun K hk=>?_⟩
   ·rw[pX]
    refine p8 hg ?_;show xY o e1 _;unfold xY
    cases hd:o.dst with
    |none=>rw[hd]at k1;exact k1 K hk
    |some d=>rw[hd]at k1;exact k1 K hk
   ·rw[rm]
    refine p8 hg ?_;show xY o e1 _;unfold xY
    cases hd:o.dst with
    |none=>rw[hd]at k2;exact k2 K hk
    |some d=>rw[hd]at k2;exact k2 K hk
  ·cases hx
end
theorem AG (d:Nat→Bool):∀(l:Env) (s i:Nat),aK (Fg d l s) i=.top∨(Nat.testBit s i=false∧aK (Fg d l s) i=aK l i∧(aK l i).within d=true)
 | [],s,i=>.inl rfl
 |(k,v)::r,s,i=>by
  have ihs:=AG d r
  have e1:Fg d ((k,v)::r) s=match Nat.testBit s k with
   |true=>Fg d r s
   |false=>match v.within d with
    |true=>(k,v)::Fg d r (Nat.lor s (Nat.pow 2 k))
    |false=>Fg d r (Nat.lor s (Nat.pow 2 k)):=rfl
  have bit:∀j,Nat.testBit (Nat.lor s (Nat.pow 2 k)) j=false→Nat.testBit s j=false∧k≠j:=by
   intro j hj;have:(s |||2 ^ k).testBit j=false:=hj;rw[Nat.testBit_or,Bool.or_eq_false_iff,Nat.testBit_two_pow]at this;exact⟨this.1,by simpa using this.2⟩
  rw[e1]
  cases h1:Nat.testBit s k with
  |true=>
   dsimp only;rcases ihs s i with h|⟨h,h',h''⟩
   ·exact .inl h
   ·have:k≠i:=fun q=>by rw[q,h]at h1;cases h1
    rw[bN this];exact .inr ⟨h,h',h''⟩
  |false=>
   dsimp only
   cases h2:v.within d with
   |true=>
    dsimp only
    by_cases q:k=i
    ·subst q;right;rw[bu,bu];exact⟨h1,rfl,h2⟩
    ·rw[bN q,bN q]
     rcases ihs _ i with h|⟨h,h',h''⟩
     ·exact .inl h
     ·exact .inr ⟨(bit i h).1,h',h''⟩
   |false=>
    dsimp only;rcases ihs (Nat.lor s (Nat.pow 2 k)) i with h|⟨h,h',h''⟩
    ·exact .inl h
    ·rw[bN (bit i h).2]
     exact .inr ⟨(bit i h).1,h',h''⟩
theorem vB {x:Nat} {K:List Nat} {l:Nat} (h:bA (x::K) l=false):x≠l∧bA K l=false:=by
 simp only[bA]at h;split at h
 ·cases h
 ·rename_i hb;exact⟨fun q=>by subst q;simp at hb,h⟩
theorem uv (d:Nat→Bool):∀(h:Heap) (K:List Nat) (l:Nat) (o:bq),aF (AR d K h) l=some o→bA K l=false∧aF h l=some o
 | [],K,l,o,hq=>by simp[AR,aF]at hq
 |(k,x)::r,K,l,o,hq=>by
  rw[AR]at hq;split at hq
  ·rename_i hb
   obtain⟨h1,h2⟩:=uv d r K l o hq;refine⟨h1,?_⟩
   by_cases q:k=l
   ·subst q
    exfalso;rw[h1,Bool.false_or]at hb;exact dedH_not d r K k hb _ hq
   ·rw[aR q];exact h2
  ·rename_i hb
   by_cases q:k=l
   ·subst q
    rw[aO]at hq ⊢;cases hq;exact⟨(Bool.or_eq_false_iff.1 hb).1,rfl⟩
   ·rw[aR q]at hq ⊢
    obtain⟨h1,h2⟩:=uv d r (k::K) l o hq;exact⟨(vB h1).2,h2⟩
where
 dedH_not (d:Nat→Bool):∀(h:Heap) (K:List Nat) (l:Nat),d l=true→∀o,aF (AR d K h) l≠some o
 | [],K,l,_,o=>by simp[AR,aF]
 |(k,x)::r,K,l,hd,o=>by
  rw[AR];split
  ·exact dedH_not d r K l hd o
  ·rename_i hb
   by_cases q:k=l
   ·subst q;rw[hd,Bool.or_true]at hb;cases hb
   ·rw[aR q];exact dedH_not d r (k::K) l hd o
section
variable {P:Program} {ty:Nat→Option TI} {n:Nat}
theorem cp.sub {g:Gh} {w:World} {a:Act} {e e':Env} {h h':Heap} (s:cp g w n a e h) (he:∀i,aK e' i=.top∨(aK e' i=aK e i∧(aK e i).within (bA (aL h'))=true)) (h1:∀l o,aF h' l=some o→aF h l=some o) (h2:mz (bA (aL h')) h'=true):cp g w n a e' h':=by
 have hd:∀l,bA (aL h') l=true→aE h' l:=fun l hl=>by
  obtain⟨ob,hob⟩:=dP h' l (iV _ _ hl);unfold aE;rw[hob];rfl
 refine⟨s.defers,s.size,fun i=>?_,⟨fun l o hl=>?_,fun l o hl=>s.heap.own l o (h1 l o hl),fun l o hl=>s.heap.pre l o (h1 l o hl)⟩,s.bnd⟩
 ·rcases he i with q|⟨q,q'⟩
  ·rw[q];exact .top _ _
  ·rw[q];exact(s.env i).within hd q'
 ·have hw:=kM h' h2 l o hl
  cases s.heap.obj l o (h1 l o hl) with
  |cells cs vs E hb hlen hx' h1'=>exact .cells cs vs E hb hlen (fun j v c r1 r2=>(hx' j v c r1 r2).within hd (bV _ cs (by simpa[bq.within] using hw) j c r2)) h1'
  |arr xs vs E hb hlen hx' h1'=>exact .arr xs vs E hb hlen hx' h1'
  |store T3 o3 sp3 nx3 z3 M3 hst=>exact .store T3 o3 sp3 nx3 z3 M3 hst
  |bH gb gvs hgl=>exact .bH gb gvs hgl
theorem LI {c:Code} {e e':Env} {h h':Heap} (hx:OS c e h=some (e',h')) {g:Gh} {w:World} {a:Act} (s:cp g w n a e h):cp g w n a e' h':=by
 unfold OS at hx;simp only[FU,D5]at hx;split at hx
 ·rename_i ho
  cases hx;refine s.sub (fun i=>?_) (fun l o q=>(uv _ _ _ _ _ q).2) ho;rcases AG (bA (aL (P0 (OC c) h))) e 0 i with q|⟨_,q,q'⟩
  ·exact .inl q
  ·exact .inr ⟨q,q'⟩
 ·cases hx
theorem iW.block {id:Nat} {c:Code} {K:Exit→Env→Heap→Prop} {e:Env} {h:Heap} (hk:iW P n c (fun x e h=>match x with
 |.exit i=>match Nat.beq i id with|true=>K .normal e h|false=>K (.exit i) e h
 |x=>K x e h) e h):iW P n (.block id c) K e h:=by
 intro g0 w0 g w a s hE;refine wp_block (wp_mono (hk g0 w0 g w a s hE) ?_);rintro ex a' w' ⟨g',e',h',hk',s',hE'⟩
 cases ex with
 |exit i=>
  simp only[Exit.inBlock]
  by_cases q:i=id
  ·subst q
   rw[if_pos rfl];simp only[lB]at hk';exact⟨g',e',h',hk',s',hE'⟩
  ·rw[if_neg q]
   simp only[beq_false q]at hk';exact⟨g',e',h',hk',s',hE'⟩
 |_=>exact⟨g',e',h',hk',s',hE'⟩
end
end Go.AM
end
section
namespace Go.AM
section
variable {P:Program} {ty:Nat→Option TI} {n:Nat} {call:Nat→List AV→Heap→Option (List Nat×Heap×AV)}
theorem Lt {draw:Bool} {ops:List Oper} {r:Option (Env×Heap×List (Option ef))} {x:Exit} {e':Env} {h':Heap} (hx:Lo draw ops r=some (x,e',h')):x=.normal∧∃rs,r=some (e',h',rs)∧(draw=true→Ki ops rs=true):=by
 unfold Lo at hx;split at hx
 ·cases hx
 ·rename_i e h rs
  cases draw with
  |false=>cases hx;exact⟨rfl,rs,rfl,fun q=>by cases q⟩
  |true=>
   dsimp only at hx;split at hx
   ·rename_i hi;cases hx;exact⟨rfl,rs,rfl,fun _=>hi⟩
   ·cases hx
theorem Lr {id:Nat} {r:Option (Exit×Env×Heap)} {x:Exit} {e':Env} {h':Heap} (hx:KZ id r=some (x,e',h')) {K:Exit→Env→Heap→Prop} (hk:K x e' h'):∃y e1 h1,r=some (y,e1,h1)∧(match y with
 |.exit i=>match Nat.beq i id with|true=>K .normal e1 h1|false=>K (.exit i) e1 h1
 |x=>K x e1 h1):=by
 unfold KZ at hx;split at hx
 ·rename_i i e h
  split at hx
  ·rename_i hb;cases hx;exact⟨_,_,_,rfl,by simp only[hb];exact hk⟩
  ·rename_i hb;cases hx;exact⟨_,_,_,rfl,by simp only[hb];exact hk⟩
 ·rename_i hne
  subst hx;refine⟨x,e',h',rfl,?_⟩
  cases x with
  |exit i=>exact absurd rfl (hne i e' h')
  |_=>exact hk
theorem iR (hty:bw P ty) (az:P.follows .mixedOrders=true) (hc:∀g l H rd hw r,call g l H=some (rd,hw,r)→∀K:List Nat→Heap→AV→Prop,K rd hw r→dh P g l H K):∀(c:Code) (k:Nat) (e:Env) (h:Heap) {x:Exit} {e':Env} {h':Heap},bE n c=true→qE ty call k c e h=some (x,e',h')→∀K:Exit→Env→Heap→Prop,K x e' h'→iW P n c K e h
 |_,0,_,_,_,_,_,_,hx,_,_=>by cases hx
 |.skip,k+1,e,h,x,e',h',hok,hx,K,hk=>by
  have hx:some (Exit.normal,e,h)=some (x,e',h'):=hx
  cases hx;exact iW.fin hty az hok hk
 |.region id ops draw,k+1,e,h,x,e',h',hok,hx,K,hk=>by
  obtain⟨rfl,rs,h1,h2⟩:=Lt (show Lo draw ops.toList (HM ty call ops.toList ops.toList e h [])=some (x,e',h') from hx);obtain⟨k1,k2⟩:=Ca hc ops.toList ops.toList e h [] h1;refine iW.fin hty az hok ?_
  cases draw with
  |false=>exact k1 (fun e h=>K .normal e h) hk
  |true=>exact k2 (fun e1 h1 rs=>dx (NY ty (dh P) ops.toList rs e1 h1) (K .normal e1 h1)) ⟨.inl (h2 rfl),hk⟩
 |.seq a b,k+1,e,h,x,e',h',hok,hx,K,hk=>by
  have hok':bE n a=true∧bE n b=true:=by simpa[bE] using hok
  have hx:(match qE ty call (k+1) a e h with|some (.normal,e,h)=>qE ty call (k+1) b e h|x=>x)=some (x,e',h'):=hx;refine iW.seq ?_;split at hx
  ·rename_i e1 h1 he
   exact iR hty az hc a (k+1) e h hok'.1 he _ (iR hty az hc b (k+1) e1 h1 hok'.2 hx K hk)
  ·rename_i hne
   refine iR hty az hc a (k+1) e h hok'.1 hx _ ?_
   cases x with
   |normal=>exact absurd hx (hne e' h')
   |_=>exact hk
 |.cond c a b,k+1,e,h,x,e',h',hok,hx,K,hk=>by
  have hok':bE n a=true∧bE n b=true:=by simpa[bE] using hok
  have hx:(match Go.AM.ev e c with|.p (.b true)=>qE ty call (k+1) a e h|.p (.b false)=>qE ty call (k+1) b e h|_=>none)=some (x,e',h'):=hx;intro g0 w0 g w ac s hE;obtain⟨_,r⟩:=s.ev c;split at hx
  ·rename_i hb
   rw[hb]at r;exact wp_cond r.bool (iR hty az hc a (k+1) e h hok'.1 hx K hk g0 w0 g w ac s hE)
  ·rename_i hb
   rw[hb]at r;exact wp_cond r.bool (iR hty az hc b (k+1) e h hok'.2 hx K hk g0 w0 g w ac s hE)
  ·cases hx
 |.block id a,k+1,e,h,x,e',h',hok,hx,K,hk=>by
  have hok':bE n a=true:=by simpa[bE] using hok
  obtain⟨y,e1,h1,q1,q2⟩:=Lr (show KZ id (qE ty call (k+1) a e h)=some (x,e',h') from hx) hk;exact iW.block (iR hty az hc a (k+1) e h hok' q1 _ q2)
 |.loop a,k+1,e,h,x,e',h',hok,hx,K,hk=>by
  have hok':bE n a=true:=by simpa[bE] using hok
  refine iW.loop (fun m e h=>∃e1 h1,(∀g w ac,cp g w n ac e h→cp g w n ac e1 h1)∧∃x e' h',qE ty call m (.loop a) e1 h1=some (x,e',h')∧K x e' h') (m:=k+1) ⟨e,h,fun _ _ _ s=>s,x,e',h',hx,hk⟩ ?_;rintro m e h ⟨e1,h1,hs,x,e',h',hx,hk⟩;intro g0 w0 g w ac s hE
  match m,hx with
  |m+1,hx=>
   have hx:(match qE ty call (m+1) a e1 h1 with
    |some (.normal,e,h)=>match OS a e h with
     |some (e,h)=>qE ty call m (.loop a) e h
     |none=>none
    |x=>x)=some (x,e',h'):=hx
   split at hx
   ·rename_i e2 h2 he
    split at hx
    ·rename_i e3 h3 hg
     refine iR hty az hc a (m+1) e1 h1 hok' he _ ?_ g0 w0 g w ac (hs _ _ _ s) hE;exact⟨m,Nat.lt_succ_self _,e3,h3,fun g w ac s=>LI hg s,x,e',h',hx,hk⟩
    ·cases hx
   ·rename_i hne
    refine iR hty az hc a (m+1) e1 h1 hok' hx _ ?_ g0 w0 g w ac (hs _ _ _ s) hE
    cases x with
    |normal=>exact absurd hx (hne e' h')
    |_=>exact hk
 |.exit i,k+1,e,h,x,e',h',hok,hx,K,hk=>by
  have hx:some (Exit.exit i,e,h)=some (x,e',h'):=hx
  cases hx;exact iW.fin hty az hok hk
 |.ret,k+1,e,h,x,e',h',hok,hx,K,hk=>by
  have hx:some (Exit.ret,e,h)=some (x,e',h'):=hx
  cases hx;exact iW.fin hty az hok hk
 |.rangeFunc ..,k+1,_,_,_,_,_,_,hx,_,_=>by cases hx
 |.scope _,k+1,_,_,_,_,_,_,hx,_,_=>by cases hx
 |.label _,k+1,_,_,_,_,_,_,hx,_,_=>by cases hx
 |.goto _,k+1,_,_,_,_,_,_,hx,_,_=>by cases hx
 |.refuse _,k+1,_,_,_,_,_,_,hx,_,_=>by cases hx
end
mutual
def AV.names:AV→List Nat
 |.agg cs=>AV.rY cs
 |.cz cs=>AV.rY cs
 |.fn _ a b=>AV.rY a++AV.rY b
 |.ptr l _=>[l]
 |.ar l=>[l]
 |.ap l _=>[l]
 |_=>[]
def AV.rY:List AV→List Nat
 | []=>[]
 |v::r=>AV.names v++AV.rY r
end
def bq.names:bq→List Nat
 |.cells cs=>AV.rY cs
 |_=>[]
def Gb:Heap→List Nat
 | []=>[]
 |(l,.bH _ _)::r=>l::Gb r
 |_::r=>Gb r
noncomputable def reach (h:Heap) (k:Nat):List Nat→List Nat→List Nat:=
 @Nat.rec (fun _=>List Nat→List Nat→List Nat) (fun _ R=>R) (fun _ ih l R=>match l with
  | []=>R
  |x::r=>match bA R x with
   |true=>ih r R
   |false=>match aF h x with
    |some ob=>ih (ob.names++r) (R++[x])
    |none=>ih r R) k
def G3 (h:Heap):Nat→Option Heap
 |0=>some []
 |k+1=>match aF h (bO+k),G3 h k with
  |some ob,some r=>some ((bO+k,ob)::r)
  |_,_=>none
def GK (f:Nat):List (Nat×Func×Code)→Option (Func×Code)
 | []=>none
 |(k,x)::r=>match Nat.beq k f with|true=>some x|false=>GK f r
def OH:Exit→Bool
 |.normal=>true
 |.ret=>true
 |_=>false
section
variable (ty:Nat→Option TI) (fns:List (Nat×Func×Code)) (ext:Nat→List AV→Heap→Option (List Nat×Heap×AV))
noncomputable def K3 (kl:Nat) (call:Nat→List AV→Heap→Option (List Nat×Heap×AV)) (f:Nat) (args:List AV) (hs:Heap):Option (AV×Heap):=
 match GK f fns with
 |none=>none
 |some (fn,c)=>match Nat.ble args.length fn.ntmps with
  |false=>none
  |true=>match qE ty call kl c (kR 0 args) hs with
   |none=>none
   |some (x,e,h1)=>match OH x with
    |false=>none
    |true=>match lV ty fn.results.toList fn.resultTypes.toList e h1 with
     |none=>none
     |some v=>match G3 h1 hs.length with
      |none=>none
      |some h'=>match v.within (bA (aL h'))&&mz (bA (aL h')) h'&&fJ hs h' with
       |true=>some (v,h')
       |false=>none
noncomputable def Kl (kl:Nat) (call:Nat→List AV→Heap→Option (List Nat×Heap×AV)) (f:Nat) (args:List AV) (h:Heap):Option (List Nat×Heap×AV):=
 match ext f args h with
 |some (rd,hw,r)=>fV r fun r=>some (rd,hw,r)
 |none=>OV (reach h 1000 (Gb h++AV.rY args) []) fun R=>match AV.dz (bA R) args&&nodupB R with
  |false=>none
  |true=>match oy h (fG R 0) (bA R) R 0 with
   |none=>none
   |some hs=>Md (AV.pF (fG R 0) args) fun aZ9=>fH hs fun hs=>match K3 ty fns kl call f aZ9 hs with
    |none=>none
    |some (v,h')=>match nodupB (aL h')&&oe h 500 R.length (aL h')&&ku (aL h') R.length with
     |true=>fV (v.wq (dV R 500)) fun v=>fH (dO R 500 h') fun h'=>some (R,h',v)
     |false=>none
noncomputable def Oz (kl k:Nat):Nat→List AV→Heap→Option (List Nat×Heap×AV):=
 @Nat.rec (fun _=>Nat→List AV→Heap→Option (List Nat×Heap×AV)) (fun _ _ _=>none) (fun _ ih=>Kl ty fns ext kl ih) k
end
theorem Kq.refl:∀cs:List AV,Kq cs cs
 | []=>trivial
 |_::r=>⟨.inl rfl,Kq.refl r⟩
theorem vN.refl (o:bq):vN o o:=by
 cases o with
 |cells cs=>exact Kq.refl cs
 |arr xs=>rfl
 |bH b vs=>exact⟨rfl,rfl⟩
 |store=>exact⟨rfl,rfl,rfl,rfl,rfl,rfl⟩
theorem Cr (h:Heap):∀(k:Nat) {h':Heap},G3 h k=some h'→mD h h'
 |0,h',hx=>by cases hx;trivial
 |k+1,h',hx=>by
  rw[G3]at hx;split at hx
  ·rename_i ob r h1 h2
   cases hx;exact⟨by rw[h1];exact vN.refl ob,Cr h k h2⟩
  ·cases hx
structure LP (P:Program) (x:Nat×Func×Code):Prop where
 get:P.funcs[x.1]?=some x.2.1
 body:x.2.1.body=some x.2.2
 name:(x.2.1.name== "runtime.NumGoroutine")=false
 ok:bE x.2.1.ntmps x.2.2=true
section
variable {P:Program} {ty:Nat→Option TI} {fns:List (Nat×Func×Code)} {ext:Nat→List AV→Heap→Option (List Nat×Heap×AV)}
theorem Ak {f:Nat}:∀{l:List (Nat×Func×Code)} {x:Func×Code},GK f l=some x→(f,x)∈l
 |(k,y)::r,x,hx=>by
  rw[GK]at hx;split at hx
  ·rename_i hb;cases hx;rw[←Nat.eq_of_beq_eq_true hb];exact List.mem_cons_self ..
  ·exact List.mem_cons_of_mem _ (Ak hx)
theorem GD (hty:bw P ty) (az:P.follows .mixedOrders=true) (hf:∀x∈fns,LP P x) {kl:Nat} {call:Nat→List AV→Heap→Option (List Nat×Heap×AV)} (hc:∀g l H rd hw r,call g l H=some (rd,hw,r)→∀K:List Nat→Heap→AV→Prop,K rd hw r→dh P g l H K) {f:Nat} {args:List AV} {hs h':Heap} {r:AV}
 (hx:K3 ty fns kl call f args hs=some (r,h')):av P f args hs r h':=by
 unfold K3 at hx;split at hx
 ·cases hx
 ·rename_i fn c hl
  have hF:=hf _ (Ak hl);split at hx
  ·cases hx
  ·rename_i hble
   split at hx
   ·cases hx
   ·rename_i x e h1 hcode
    split at hx
    ·cases hx
    ·rename_i hend
     split at hx
     ·cases hx
     ·rename_i v hv
      split at hx
      ·cases hx
      ·rename_i h2 hkeep
       split at hx
       ·rename_i c1
        cases hx;refine av.pU hty hF.get hF.body hF.name (Nat.le_of_ble_eq_true hble) c1 ?_;refine iR hty az hc c kl _ _ hF.ok hcode _ ?_
        have fin:(match lV ty fn.results.toList fn.resultTypes.toList e h1 with|some v1=>wO v1 r∧mD h1 h'|none=>False):=by
         rw[hv];exact⟨.inl rfl,Cr h1 _ hkeep⟩
        cases x with
        |normal=>exact fin
        |ret=>exact fin
        |_=>cases hend
       ·cases hx
theorem IC (hty:bw P ty) (az:P.follows .mixedOrders=true) (hf:∀x∈fns,LP P x) (he:∀f args h rd hw r,ext f args h=some (rd,hw,r)→∀K:List Nat→Heap→AV→Prop,K rd hw r→dh P f args h K) (kl:Nat) {call:Nat→List AV→Heap→Option (List Nat×Heap×AV)} (hc:∀g l H rd hw r,call g l H=some (rd,hw,r)→∀K:List Nat→Heap→AV→Prop,K rd hw r→dh P g l H K):
 ∀g l H rd hw r,Kl ty fns ext kl call g l H=some (rd,hw,r)→∀K:List Nat→Heap→AV→Prop,K rd hw r→dh P g l H K:=by
 intro f args h rd hw r hx K hk;unfold Kl at hx;split at hx
 ·rename_i hr
  rw[Jw]at hx;cases hx;exact he _ _ _ _ _ _ hr K hk
 ·simp only[D5]at hx
  split at hx
  ·cases hx
  ·rename_i hR
   split at hx
   ·cases hx
   ·rename_i hs hsub
    simp only[BV,Ma,Jw]at hx;split at hx
    ·cases hx
    ·rename_i v h' hm
     split at hx
     ·rename_i c2
      cases hx;exact .mem _ 500 hs v h' hR hsub (GD hty az hf hc hm) c2 hk
     ·cases hx
theorem GH (hty:bw P ty) (az:P.follows .mixedOrders=true) (hf:∀x∈fns,LP P x) (he:∀f args h rd hw r,ext f args h=some (rd,hw,r)→∀K:List Nat→Heap→AV→Prop,K rd hw r→dh P f args h K) (kl:Nat):∀(k:Nat),∀g l H rd hw r,Oz ty fns ext kl k g l H=some (rd,hw,r)→∀K:List Nat→Heap→AV→Prop,K rd hw r→dh P g l H K
 |0=>fun _ _ _ _ _ _ hx=>by cases hx
 |k+1=>IC hty az hf he kl (GH hty az hf he kl k)
end
end Go.AM
end
section
open Go Go.AM Go.Proofs
set_option maxRecDepth 100000
namespace XE
noncomputable def dB (f:Nat) (F:Func):Nat×Func×Code:=(f,F,F.body.getD .skip)
noncomputable def fns:List (Nat×Func×Code):=[dB 41 Tryz.f41,dB 43 Tryz.f43,dB 44 Tryz.f44,dB 45 Tryz.f45,dB 55 Tryz.f55,dB 56 Tryz.f56,dB 57 Tryz.f57,dB 58 Tryz.f58,dB 59 Tryz.f59,dB 60 Tryz.f60,dB 61 Tryz.f61,dB 62 Tryz.f62,dB 63 Tryz.f63,dB 64 Tryz.f64,dB 65 Tryz.f65,dB 66 Tryz.f66,dB 67 Tryz.f67,dB 68 Tryz.f68,dB 69 Tryz.f69,dB 70 Tryz.f70,dB 71 Tryz.f71,dB 72 Tryz.f72,dB 73 Tryz.f73,dB 74 Tryz.f74,dB 75 Tryz.f75,dB 82 Tryz.f82,dB 83 Tryz.f83,dB 85 Tryz.f85,dB 86 Tryz.f86,dB 87 Tryz.f87,dB 88 Tryz.f88,dB 89 Tryz.f89,dB 90 Tryz.f90,dB 91 Tryz.f91,dB 92 Tryz.f92,dB 94 Tryz.f94,dB 95 Tryz.f95,dB 96 Tryz.f96,dB 97 Tryz.f97,dB 98 Tryz.f98,dB 99 Tryz.f99,dB 100 Tryz.f100,dB 101 Tryz.f101,dB 102 Tryz.f102,dB 103 Tryz.f103,dB 104 Tryz.f104,dB 105 Tryz.f105,dB 106 Tryz.f106,dB 107 Tryz.f107,dB 108 Tryz.f108,dB 109 Tryz.f109,dB 110 Tryz.f110,dB 111 Tryz.f111,dB 112 Tryz.f112,dB 113 Tryz.f113,dB 114 Tryz.f114,dB 115 Tryz.f115,dB 116 Tryz.f116,dB 121 Tryz.f121,dB 124 Tryz.f124,dB 126 Tryz.f126,dB 127 Tryz.f127,dB 130 Tryz.f130,dB 131 Tryz.f131,dB 132 Tryz.f132,dB 133 Tryz.f133,dB 134 Tryz.f134,dB 135 Tryz.f135,dB 136 Tryz.f136,dB 137 Tryz.f137,dB 138 Tryz.f138,dB 139 Tryz.f139,dB 140 Tryz.f140,dB 141 Tryz.f141,dB 142 Tryz.f142,dB 143 Tryz.f143,dB 144 Tryz.f144,dB 151 Tryz.f151,dB 157 Tryz.f157,dB 158 Tryz.f158,dB 159 Tryz.f159,dB 160 Tryz.f160,dB 161 Tryz.f161,dB 162 Tryz.f162,dB 163 Tryz.f163,dB 164 Tryz.f164,dB 165 Tryz.f165,dB 166 Tryz.f166,dB 167 Tryz.f167,dB 168 Tryz.f168,dB 169 Tryz.f169,dB 170 Tryz.f170,dB 171 Tryz.f171,dB 172 Tryz.f172,dB 182 Tryz.f182,dB 183 Tryz.f183,dB 184 Tryz.f184,dB 185 Tryz.f185,dB 186 Tryz.f186,dB 187 Tryz.f187,dB 188 Tryz.f188,dB 189 Tryz.f189,dB 192 Tryz.f192,dB 195 Tryz.f195,dB 201 Tryz.f201]
def NO:List Value→Bool
 | [.nilIface]=>true
 | [.iface _ _]=>true
 |_=>false
noncomputable def ext (f:Nat) (a:List AV) (h:Heap):Option (List Nat×Heap×AV):=match Nat.beq f 123 with
 |true=>match a with
  | []=>some ([],[],.p (.sl 1 (TK.rz.map TK.bD)))
  |_=>none
 |false=>match Nat.beq f 125 with
  |true=>match a with
   | [.p (.s ⟨⟨l⟩⟩),.p (.s ⟨⟨[c]⟩⟩)]=>some ([],[],.p (.b (decide (Lib.indexByte l c≥0))))
   |_=>none
  |false=>match Nat.beq f 84 with
   |true=>match a with
    | [.p (.s ⟨⟨l⟩⟩)]=>some ([],[],.p (.b (TK.Mf l)))
    |_=>none
   |false=>match Nat.beq f 150 with
    |true=>match a with
     | [.p (.s ⟨⟨l⟩⟩),.p (.s ⟨⟨[c]⟩⟩)]=>match Nat.beq c.toNat 32&&Nat.ble l.length 1000 with
       |true=>some ([],[],.p (.sl 1 ((TK.eX 32 l).map TK.bD)))
       |false=>none
     |_=>none
    |false=>match Nat.beq f 93 with
     |true=>match Gb h,a with
      |l::_,[.p (.s ⟨⟨[c]⟩⟩),.p (.i .i64 10),.p (.i .i64 64)]=>match aF h l with
       |some (.bH 2 tab)=>match NO tab&&PA.PM (Lib.parseIntB 64 [c]) with
        |true=>some ([l],[(l,.bH 2 tab)],.cz [.p (.i .i64 (PA.Jj ⟨⟨[c]⟩⟩).1),.vD (PA.Jj ⟨⟨[c]⟩⟩).2])
        |false=>none
       |_=>none
      |_,_=>none
     |false=>none
noncomputable def mem (f:Nat) (args:List AV) (h:Heap):=K3 (jJ Tryz.prog) fns 400 (Oz (jJ Tryz.prog) fns ext 400 40) f args h
theorem Kg:∀x∈fns,LP Tryz.prog x:=by
 unfold fns
 repeat' refine List.forall_mem_cons.2 ⟨⟨by kernel_rfl,by rfl,by kernel_rfl,by kernel_rfl⟩,?_⟩
 exact List.forall_mem_nil _
end XE
end
