/- Contracts, and the law, for every input. No conditions. -/
import Derived.Test.YtdmopjgjhfhfdaaGreatDoorAMX3
import Derived.Test.YtdmopjgjhfhfdaaGreatDoorAMRngD
import Derived.Test.YtdmopjgjhfhfdaaGreatDoorAMRec
import Derived.Test.YtdmopjgjhfhfdaaGreatDoorPAD
set_option linter.all false
section
namespace Go.AM
section
variable {α β:Type}
noncomputable def fN (n:Nat) (K:Nat→α):α:=@Nat.rec (fun _=>(Nat→α)→α) (fun K=>K 0) (fun m _ K=>K (Nat.succ m)) n K
noncomputable def fI (i:Int) (K:Int→α):α:=match i with
 |.ofNat n=>fN n fun n=>K (.ofNat n)
 |.negSucc n=>fN n fun n=>K (.negSucc n)
noncomputable def fB (b:Bool) (K:Bool→α):α:=match b with
 |true=>K true
 |false=>K false
noncomputable def fL (l:List β) (K:List β→α):α:=@List.rec β (fun _=>(List β→α)→α) (fun K=>K []) (fun x _ ih K=>ih fun r=>K (x::r)) l K
noncomputable def fP (v:PV) (K:PV→α):α:=match v with
 |.i k n=>fI n fun n=>K (.i k n)
 |.b b=>fB b fun b=>K (.b b)
 |.s ⟨⟨l⟩⟩=>fL l fun l=>K (.s ⟨⟨l⟩⟩)
 |.sl z xs=>fN z fun z=>fL xs fun xs=>K (.sl z xs)
 |.agg xs=>fL xs fun xs=>K (.agg xs)
 |v=>K v
noncomputable def O0 (v:AV) (K:AV→α):α:=match v with
 |.p x=>fP x fun x=>K (.p x)
 |.so z xs=>fN z fun z=>fL xs fun xs=>K (.so z xs)
 |.ptr l off=>fN l fun l=>fN off fun off=>K (.ptr l off)
 |v=>K v
noncomputable def My (l:List AV) (K:List AV→α):α:=@List.rec AV (fun _=>(List AV→α)→α) (fun K=>K []) (fun x _ ih K=>O0 x fun x=>ih fun r=>K (x::r)) l K
noncomputable def fV (v:AV) (K:AV→α):α:=match v with
 |.agg cs=>My cs fun cs=>K (.agg cs)
 |.cA cs=>My cs fun cs=>K (.cA cs)
 |.fn f a b=>My a fun a=>My b fun b=>K (.fn f a b)
 |v=>O0 v K
noncomputable def fE (l:Env) (K:Env→α):α:=@List.rec (Nat×AV) (fun _=>(Env→α)→α) (fun K=>K []) (fun x _ ih K=>match x with
 |(d,v)=>fV v fun v=>ih fun r=>K ((d,v)::r)) l K
noncomputable def fO (o:br) (K:br→α):α:=match o with
 |.cells cs=>My cs fun cs=>K (.cells cs)
 |o=>K o
noncomputable def fH (l:Heap) (K:Heap→α):α:=@List.rec (Nat×br) (fun _=>(Heap→α)→α) (fun K=>K []) (fun x _ ih K=>match x with
 |(d,v)=>fN d fun d=>fO v fun v=>ih fun r=>K ((d,v)::r)) l K
noncomputable def O6 (l:List Nat) (K:List Nat→α):α:=@List.rec Nat (fun _=>(List Nat→α)→α) (fun K=>K []) (fun x _ ih K=>fN x fun x=>ih fun r=>K (x::r)) l K
noncomputable def fF (b:Bool) (f:ei) (K:ei→α):α:=match b with
 |true=>K f
 |false=>match f with
  |⟨rd,ew,hw⟩=>fE ew fun ew=>K ⟨rd,ew,hw⟩
theorem Cw (n:Nat) (K:Nat→α):fN n K=K n:=by cases n<;>rfl
theorem Om (n:Int) (K:Int→α):fI n K=K n:=by cases n<;>exact Cw _ _
theorem Od (n:Bool) (K:Bool→α):fB n K=K n:=by cases n<;>rfl
theorem Gb:∀(l:List β) (K:List β→α),fL l K=K l
 | [],_=>rfl
 |x::r,K=>Gb r (fun r=>K (x::r))
theorem O4 (v:PV) (K:PV→α):fP v K=K v:=by
 unfold fP;split<;>simp only[Cw,Om,Od,Gb]
theorem Kv (v:AV) (K:AV→α):O0 v K=K v:=by
 unfold O0;split<;>simp only[Cw,O4,Gb]
theorem Ch:∀(l:List AV) (K:List AV→α),My l K=K l
 | [],_=>rfl
 |x::r,K=>by
  show O0 x (fun x=>My r fun r=>K (x::r))=_;rw[Kv,Ch r]
theorem J6 (v:AV) (K:AV→α):fV v K=K v:=by
 unfold fV;split<;>simp only[Ch,Kv]
theorem MB:∀(l:Env) (K:Env→α),fE l K=K l
 | [],_=>rfl
 |(d,v)::r,K=>by
  show fV v (fun v=>fE r fun r=>K ((d,v)::r))=_;rw[J6,MB r]
theorem OE (o:br) (K:br→α):fO o K=K o:=by
 unfold fO;split<;>simp only[Ch]
theorem MC:∀(l:Heap) (K:Heap→α),fH l K=K l
 | [],_=>rfl
 |(d,v)::r,K=>by
  show fN d (fun d=>fO v fun v=>fH r fun r=>K ((d,v)::r))=_;rw[Cw,OE,MC r]
theorem FF:∀(l:List Nat) (K:List Nat→α),O6 l K=K l
 | [],_=>rfl
 |x::r,K=>by
  show fN x (fun x=>O6 r fun r=>K (x::r))=_;rw[Cw,FF r]
theorem OU (b:Bool) (f:ei) (K:ei→α):fF b f K=K f:=by
 unfold fF;split
 ·rfl
 ·simp only[MB]
def Qg (o:Oper):Bool:=match o.op with
 |.move _=>true
 |.assign _=>true
 |.load ..=>true
 |_=>false
def yN:List (Nat×β)→List (Nat×β)→(List (Nat×β)→α)→α
 | [],e,K=>K e
 |x::r,e,K=>yN r (x::e) K
theorem xu:∀(r e:List (Nat×β)) (K:List (Nat×β)→α),yN r e K=K (r.reverse++e)
 | [],e,K=>rfl
 |x::r,e,K=>by rw[yN,xu r];simp
end
section
variable (ty:Nat→Option TI) (call:Nat→List AV→Heap→Option (List Nat×Heap×AV))
def Pd (mv:Nat→Bool) (o:Oper) (e:Env) (h:Heap):Option ei:=match Jg ty o e with
 |true=>none
 |false=>MV ty call mv o e h
def BS (ops:List Oper) (o:Oper) (e:Env):Option (Bool×Env):=match o.guard with
 |none=>some (true,e)
 |some (j,want)=>match ops[j]? with
  |some og=>match og.dst with
   |some d=>match aL e d with
    |.p (.b g)=>some (Lg g want,(d,.p (.b g))::e)
    |.cA []=>some (false,e)
    |_=>none
   |none=>none
  |none=>none
def Jr (o:Oper) (e:Env):Env:=match o.dst with
 |some d=>(d,.cA [])::e
 |none=>e
noncomputable def II (all l:List Oper):Env→Heap→List (Option ei)→Option (Env×Heap×List (Option ei)):=
 @List.rec Oper (fun _=>Env→Heap→List (Option ei)→Option (Env×Heap×List (Option ei)))
  (fun e h rs=>some (e,h,rs))
  (fun o _ ih e h rs=>match BS all o e with
    |some (true,e)=>match Pd ty call (pO all) o e h with
     |some f=>fF (Qg o) f fun f=>yN f.ew e fun e=>yN f.hw h fun h=>ih e h (some f::rs)
     |none=>none
    |some (false,e)=>ih (Jr o e) h (none::rs)
    |none=>none) l
theorem IA (all:List Oper) (o:Oper) (r:List Oper) (e:Env) (h:Heap) (rs:List (Option ei)):II ty call all (o::r) e h rs=match BS all o e with
 |some (true,e)=>match Pd ty call (pO all) o e h with
  |some f=>fF (Qg o) f fun f=>yN f.ew e fun e=>yN f.hw h fun h=>II ty call all r e h (some f::rs)
  |none=>none
 |some (false,e)=>II ty call all r (Jr o e) h (none::rs)
 |none=>none:=rfl
def LD (draw:Bool) (ops:List Oper):Option (Env×Heap×List (Option ei))→Option (Exit×Env×Heap)
 |none=>none
 |some (e,h,rs)=>match draw with
  |false=>some (.normal,e,h)
  |true=>match JG ops rs with
   |true=>some (.normal,e,h)
   |false=>none
def Lx (id:Nat):Option (Exit×Env×Heap)→Option (Exit×Env×Heap)
 |some (.exit i,e,h)=>match Nat.beq i id with
  |true=>some (.normal,e,h)
  |false=>some (.exit i,e,h)
 |x=>x
noncomputable def OH (c:Code):List Nat:=
 @Code.rec (fun _=>List Nat) [] (fun _ ops _=>ops.toList.filterMap (·.dst)) (fun _ _ a b=>a++b) (fun _ _ _ a b=>a++b) (fun _ _ a=>a) (fun _ a=>a) (fun _ _ _ _ _ _=>[]) (fun _=>[]) (fun _ _=>[]) (fun _=>[]) (fun _=>[]) [] (fun _=>[]) c
noncomputable def EX (d:Nat→Bool) (l:Env):Nat→Env:=
 @List.rec (Nat×AV) (fun _=>Nat→Env) (fun _=>[]) (fun x _ ih s=>match Nat.testBit s x.1 with
  |true=>ih s
  |false=>match x.2.within d with
   |true=>x::ih (Nat.lor s (Nat.pow 2 x.1))
   |false=>ih (Nat.lor s (Nat.pow 2 x.1))) l
def Bo (d:Nat→Bool) (K:List Nat):Heap→Heap
 | []=>[]
 |(l,o)::r=>match bB K l||d l with
  |true=>Bo d K r
  |false=>(l,o)::Bo d (l::K) r
def Qn (D:List Nat) (h:Heap):Heap:=Bo (bB D) [] h
noncomputable def Pb (c:Code) (e:Env) (h:Heap):Option (Env×Heap):=
 fL (Qn (OH c) h) fun h'=>O6 (aO h') fun ks=>match mD (bB ks) h' with
 |true=>fL (EX (bB ks) e 0) fun e=>some (e,h')
 |false=>none
noncomputable def qL (k:Nat):Code→Env→Heap→Option (Exit×Env×Heap):=
 @Nat.rec (fun _=>Code→Env→Heap→Option (Exit×Env×Heap)) (fun _ _ _=>none)
  (fun _ ih c0=>@Code.rec (fun _=>Env→Heap→Option (Exit×Env×Heap))
    (fun e h=>some (.normal,e,h))
    (fun _ ops draw e h=>LD draw ops.toList (II ty call ops.toList ops.toList e h []))
    (fun _ _ iha ihb e h=>match iha e h with
      |some (.normal,e,h)=>ihb e h
      |x=>x)
    (fun c _ _ iha ihb e h=>match ev e c with
      |.p (.b true)=>iha e h
      |.p (.b false)=>ihb e h
      |_=>none)
    (fun id _ ihc e h=>Lx id (ihc e h))
    (fun c ihc e h=>match ihc e h with
      |some (.normal,e,h)=>match Pb c e h with
       |some (e,h)=>ih (.loop c) e h
       |none=>none
      |x=>x)
    (fun _ _ _ _ _ _ _ _=>none)
    (fun i e h=>some (.exit i,e,h))
    (fun _ _ _ _=>none) (fun _ _ _=>none) (fun _ _ _=>none)
    (fun e h=>some (.ret,e,h))
    (fun _ _ _=>none) c0) k
end
section
variable {ty:Nat→Option TI} {call:Nat→List AV→Heap→Option (List Nat×Heap×AV)} {pc:Nat→List AV→Heap→(List Nat→Heap→AV→Prop)→Prop}
theorem Jq (hc:∀g l H rd hw r,call g l H=some (rd,hw,r)→∀K:List Nat→Heap→AV→Prop,K rd hw r→pc g l H K) {mv:Nat→Bool} {o:Oper} {e:Env} {h:Heap} {f:ei} {K:AK} (hx:Pd ty call mv o e h=some f) (hk:K f):LM ty pc mv o e h K:=by
 unfold Pd at hx;unfold LM
 cases hd:Jg ty o e with
 |true=>rw[hd]at hx;cases hx
 |false=>rw[hd]at hx;exact LV hc hx hk
theorem qA {ops:List Oper} {o:Oper} {e e1:Env} {b:Bool} {S X:Env→Prop} (hx:BS ops o e=some (b,e1)) (hk:match b with|true=>X e1|false=>S e1):guardOf ops o e S X:=by
 unfold BS at hx;unfold guardOf
 cases hg:o.guard with
 |none=>rw[hg]at hx;cases hx;exact hk
 |some p=>
  obtain⟨j,want⟩:=p;rw[hg]at hx;dsimp only at hx ⊢;split at hx
  ·rename_i og h1
   rw[h1];dsimp only;split at hx
   ·rename_i d h2
    rw[h2];dsimp only;split at hx
    ·rename_i g h3
     rw[h3];dsimp only;cases hx
     cases g<;>cases want<;>exact hk
    ·rename_i h3
     rw[h3];cases hx;exact hk
    ·cases hx
   ·cases hx
  ·cases hx
theorem Bx (hc:∀g l H rd hw r,call g l H=some (rd,hw,r)→∀K:List Nat→Heap→AV→Prop,K rd hw r→pc g l H K) (all:List Oper):∀(l:List Oper) (e:Env) (h:Heap) (rs:List (Option ei)) {e':Env} {h':Heap} {rs':List (Option ei)},II ty call all l e h rs=some (e',h',rs')→
 (∀K:Env→Heap→Prop,K e' h'→zZ ty pc all l e h K)∧(∀K:Env→Heap→List (Option ei)→Prop,K e' h' rs'→yJ ty pc all l e h rs K)
 | [],e,h,rs,e',h',rs',hx=>by cases hx;exact⟨fun _ hk=>hk,fun _ hk=>hk⟩
 |o::r,e,h,rs,e',h',rs',hx=>by
  rw[IA]at hx;split at hx
  ·rename_i e1 hg
   split at hx
   ·rename_i f hf
    rw[OU,xu,xu]at hx;obtain⟨k1,k2⟩:=Bx hc all r _ _ _ hx;refine⟨fun K hk=>?_,fun K hk=>?_⟩
    ·rw[qf]
     refine qA hg ?_;refine Jq hc hf ?_;rw[kK,kI];exact k1 K hk
    ·rw[rY]
     refine qA hg ?_;refine Jq hc hf ?_;rw[kK,kI];exact k2 K hk
   ·cases hx
  ·rename_i e1 hg
   obtain⟨k1,k2⟩:=Bx hc all r _ _ _ hx;unfold Jr at k1 k2;refine⟨fun K hk=>?_,fun K hk=>?_⟩
   ·rw[qf]
    refine qA hg ?_;show xB o e1 _;unfold xB
    cases hd:o.dst with
    |none=>rw[hd]at k1;exact k1 K hk
    |some d=>rw[hd]at k1;exact k1 K hk
   ·rw[rY]
    refine qA hg ?_;show xB o e1 _;unfold xB
    cases hd:o.dst with
    |none=>rw[hd]at k2;exact k2 K hk
    |some d=>rw[hd]at k2;exact k2 K hk
  ·cases hx
end
theorem Ax (d:Nat→Bool):∀(l:Env) (s i:Nat),aL (EX d l s) i=.top∨(Nat.testBit s i=false∧aL (EX d l s) i=aL l i∧(aL l i).within d=true)
 | [],s,i=>.inl rfl
 |(k,v)::r,s,i=>by
  have ihs:=Ax d r
  have e1:EX d ((k,v)::r) s=match Nat.testBit s k with
   |true=>EX d r s
   |false=>match v.within d with
    |true=>(k,v)::EX d r (Nat.lor s (Nat.pow 2 k))
    |false=>EX d r (Nat.lor s (Nat.pow 2 k)):=rfl
  have bit:∀j,Nat.testBit (Nat.lor s (Nat.pow 2 k)) j=false→Nat.testBit s j=false∧k≠j:=by
   intro j hj;have:(s |||2 ^ k).testBit j=false:=hj;rw[Nat.testBit_or,Bool.or_eq_false_iff,Nat.testBit_two_pow]at this;exact⟨this.1,by simpa using this.2⟩
  rw[e1]
  cases h1:Nat.testBit s k with
  |true=>
   dsimp only;rcases ihs s i with h|⟨h,h',h''⟩
   ·exact .inl h
   ·have:k≠i:=fun q=>by rw[q,h]at h1;cases h1
    rw[bN this];exact .inr ⟨h,h',h''⟩
  |false=>
   dsimp only
   cases h2:v.within d with
   |true=>
    dsimp only
    by_cases q:k=i
    ·subst q;right;rw[bw,bw];exact⟨h1,rfl,h2⟩
    ·rw[bN q,bN q]
     rcases ihs _ i with h|⟨h,h',h''⟩
     ·exact .inl h
     ·exact .inr ⟨(bit i h).1,h',h''⟩
   |false=>
    dsimp only;rcases ihs (Nat.lor s (Nat.pow 2 k)) i with h|⟨h,h',h''⟩
    ·exact .inl h
    ·rw[bN (bit i h).2]
     exact .inr ⟨(bit i h).1,h',h''⟩
theorem vR {x:Nat} {K:List Nat} {l:Nat} (h:bB (x::K) l=false):x≠l∧bB K l=false:=by
 simp only[bB]at h;split at h
 ·cases h
 ·rename_i hb;exact⟨fun q=>by subst q;simp at hb,h⟩
theorem uB (d:Nat→Bool):∀(h:Heap) (K:List Nat) (l:Nat) (o:br),aG (Bo d K h) l=some o→bB K l=false∧aG h l=some o
 | [],K,l,o,hq=>by simp[Bo,aG]at hq
 |(k,x)::r,K,l,o,hq=>by
  rw[Bo]at hq;split at hq
  ·rename_i hb
   obtain⟨h1,h2⟩:=uB d r K l o hq;refine⟨h1,?_⟩
   by_cases q:k=l
   ·subst q
    exfalso;rw[h1,Bool.false_or]at hb;exact dedH_not d r K k hb _ hq
   ·rw[aT q];exact h2
  ·rename_i hb
   by_cases q:k=l
   ·subst q
    rw[aP]at hq ⊢;cases hq;exact⟨(Bool.or_eq_false_iff.1 hb).1,rfl⟩
   ·rw[aT q]at hq ⊢
    obtain⟨h1,h2⟩:=uB d r (k::K) l o hq;exact⟨(vR h1).2,h2⟩
where
 dedH_not (d:Nat→Bool):∀(h:Heap) (K:List Nat) (l:Nat),d l=true→∀o,aG (Bo d K h) l≠some o
 | [],K,l,_,o=>by simp[Bo,aG]
 |(k,x)::r,K,l,hd,o=>by
  rw[Bo];split
  ·exact dedH_not d r K l hd o
  ·rename_i hb
   by_cases q:k=l
   ·subst q;rw[hd,Bool.or_true]at hb;cases hb
   ·rw[aT q];exact dedH_not d r (k::K) l hd o
section
variable {P:Program} {ty:Nat→Option TI} {n:Nat}
theorem cp.sub {g:Gh} {w:World} {a:Act} {e e':Env} {h h':Heap} (s:cp g w n a e h) (he:∀i,aL e' i=.top∨(aL e' i=aL e i∧(aL e i).within (bB (aO h'))=true)) (h1:∀l o,aG h' l=some o→aG h l=some o) (h2:mD (bB (aO h')) h'=true):cp g w n a e' h':=by
 have hd:∀l,bB (aO h') l=true→aF h' l:=fun l hl=>by
  obtain⟨ob,hob⟩:=dO h' l (iP _ _ hl);unfold aF;rw[hob];rfl
 refine⟨s.defers,s.size,fun i=>?_,⟨fun l o hl=>?_,fun l o hl=>s.heap.own l o (h1 l o hl),fun l o hl=>s.heap.pre l o (h1 l o hl)⟩,s.bnd⟩
 ·rcases he i with q|⟨q,q'⟩
  ·rw[q];exact .top _ _
  ·rw[q];exact(s.env i).within hd q'
 ·have hw:=lf h' h2 l o hl
  cases s.heap.obj l o (h1 l o hl) with
  |cells cs vs E hb hlen hx' h1'=>exact .cells cs vs E hb hlen (fun j v c r1 r2=>(hx' j v c r1 r2).within hd (bZ _ cs (by simpa[br.within] using hw) j c r2)) h1'
  |arr xs vs E hb hlen hx' h1'=>exact .arr xs vs E hb hlen hx' h1'
  |store T3 o3 sp3 nx3 z3 M3 hst=>exact .store T3 o3 sp3 nx3 z3 M3 hst
  |bK gb gvs hgl=>exact .bK gb gvs hgl
theorem LY {c:Code} {e e':Env} {h h':Heap} (hx:Pb c e h=some (e',h')) {g:Gh} {w:World} {a:Act} (s:cp g w n a e h):cp g w n a e' h':=by
 unfold Pb at hx;simp only[Gb,FF]at hx;split at hx
 ·rename_i ho
  cases hx;refine s.sub (fun i=>?_) (fun l o q=>(uB _ _ _ _ _ q).2) ho;rcases Ax (bB (aO (Qn (OH c) h))) e 0 i with q|⟨_,q,q'⟩
  ·exact .inl q
  ·exact .inr ⟨q,q'⟩
 ·cases hx
theorem iN.block {id:Nat} {c:Code} {K:Exit→Env→Heap→Prop} {e:Env} {h:Heap} (hk:iN P n c (fun x e h=>match x with
 |.exit i=>match Nat.beq i id with|true=>K .normal e h|false=>K (.exit i) e h
 |x=>K x e h) e h):iN P n (.block id c) K e h:=by
 intro g0 w0 g w a s hE;refine wp_block (wp_mono (hk g0 w0 g w a s hE) ?_);rintro ex a' w' ⟨g',e',h',hk',s',hE'⟩
 cases ex with
 |exit i=>
  simp only[Exit.inBlock]
  by_cases q:i=id
  ·subst q
   rw[if_pos rfl];simp only[lH]at hk';exact⟨g',e',h',hk',s',hE'⟩
  ·rw[if_neg q]
   simp only[beq_false q]at hk';exact⟨g',e',h',hk',s',hE'⟩
 |_=>exact⟨g',e',h',hk',s',hE'⟩
end
end Go.AM
end
section
namespace Go.AM
section
variable {P:Program} {ty:Nat→Option TI} {n:Nat} {call:Nat→List AV→Heap→Option (List Nat×Heap×AV)}
theorem La {draw:Bool} {ops:List Oper} {r:Option (Env×Heap×List (Option ei))} {x:Exit} {e':Env} {h':Heap} (hx:LD draw ops r=some (x,e',h')):x=.normal∧∃rs,r=some (e',h',rs)∧(draw=true→JG ops rs=true):=by
 unfold LD at hx;split at hx
 ·cases hx
 ·rename_i e h rs
  cases draw with
  |false=>cases hx;exact⟨rfl,rs,rfl,fun q=>by cases q⟩
  |true=>
   dsimp only at hx;split at hx
   ·rename_i hi;cases hx;exact⟨rfl,rs,rfl,fun _=>hi⟩
   ·cases hx
theorem LU {id:Nat} {r:Option (Exit×Env×Heap)} {x:Exit} {e':Env} {h':Heap} (hx:Lx id r=some (x,e',h')) {K:Exit→Env→Heap→Prop} (hk:K x e' h'):∃y e1 h1,r=some (y,e1,h1)∧(match y with
 |.exit i=>match Nat.beq i id with|true=>K .normal e1 h1|false=>K (.exit i) e1 h1
 |x=>K x e1 h1):=by
 unfold Lx at hx;split at hx
 ·rename_i i e h
  split at hx
  ·rename_i hb;cases hx;exact⟨_,_,_,rfl,by simp only[hb];exact hk⟩
  ·rename_i hb;cases hx;exact⟨_,_,_,rfl,by simp only[hb];exact hk⟩
 ·rename_i hne
  subst hx;refine⟨x,e',h',rfl,?_⟩
  cases x with
  |exit i=>exact absurd rfl (hne i e' h')
  |_=>exact hk
theorem iT (hty:bz P ty) (aC:P.follows .mixedOrders=true) (hc:∀g l H rd hw r,call g l H=some (rd,hw,r)→∀K:List Nat→Heap→AV→Prop,K rd hw r→dj P g l H K):∀(c:Code) (k:Nat) (e:Env) (h:Heap) {x:Exit} {e':Env} {h':Heap},bF n c=true→qL ty call k c e h=some (x,e',h')→∀K:Exit→Env→Heap→Prop,K x e' h'→iN P n c K e h
 |_,0,_,_,_,_,_,_,hx,_,_=>by cases hx
 |.skip,k+1,e,h,x,e',h',hok,hx,K,hk=>by
  have hx:some (Exit.normal,e,h)=some (x,e',h'):=hx
  cases hx;exact iN.fin hty aC hok hk
 |.region id ops draw,k+1,e,h,x,e',h',hok,hx,K,hk=>by
  obtain⟨rfl,rs,h1,h2⟩:=La (show LD draw ops.toList (II ty call ops.toList ops.toList e h [])=some (x,e',h') from hx);obtain⟨k1,k2⟩:=Bx hc ops.toList ops.toList e h [] h1;refine iN.fin hty aC hok ?_
  cases draw with
  |false=>exact k1 (fun e h=>K .normal e h) hk
  |true=>exact k2 (fun e1 h1 rs=>dz (OO ty (dj P) ops.toList rs e1 h1) (K .normal e1 h1)) ⟨.inl (h2 rfl),hk⟩
 |.seq a b,k+1,e,h,x,e',h',hok,hx,K,hk=>by
  have hok':bF n a=true∧bF n b=true:=by simpa[bF] using hok
  have hx:(match qL ty call (k+1) a e h with|some (.normal,e,h)=>qL ty call (k+1) b e h|x=>x)=some (x,e',h'):=hx;refine iN.seq ?_;split at hx
  ·rename_i e1 h1 he
   exact iT hty aC hc a (k+1) e h hok'.1 he _ (iT hty aC hc b (k+1) e1 h1 hok'.2 hx K hk)
  ·rename_i hne
   refine iT hty aC hc a (k+1) e h hok'.1 hx _ ?_
   cases x with
   |normal=>exact absurd hx (hne e' h')
   |_=>exact hk
 |.cond c a b,k+1,e,h,x,e',h',hok,hx,K,hk=>by
  have hok':bF n a=true∧bF n b=true:=by simpa[bF] using hok
  have hx:(match Go.AM.ev e c with|.p (.b true)=>qL ty call (k+1) a e h|.p (.b false)=>qL ty call (k+1) b e h|_=>none)=some (x,e',h'):=hx;intro g0 w0 g w ac s hE;obtain⟨_,r⟩:=s.ev c;split at hx
  ·rename_i hb
   rw[hb]at r;exact wp_cond r.bool (iT hty aC hc a (k+1) e h hok'.1 hx K hk g0 w0 g w ac s hE)
  ·rename_i hb
   rw[hb]at r;exact wp_cond r.bool (iT hty aC hc b (k+1) e h hok'.2 hx K hk g0 w0 g w ac s hE)
  ·cases hx
 |.block id a,k+1,e,h,x,e',h',hok,hx,K,hk=>by
  have hok':bF n a=true:=by simpa[bF] using hok
  obtain⟨y,e1,h1,q1,q2⟩:=LU (show Lx id (qL ty call (k+1) a e h)=some (x,e',h') from hx) hk;exact iN.block (iT hty aC hc a (k+1) e h hok' q1 _ q2)
 |.loop a,k+1,e,h,x,e',h',hok,hx,K,hk=>by
  have hok':bF n a=true:=by simpa[bF] using hok
  refine iN.loop (fun m e h=>∃e1 h1,(∀g w ac,cp g w n ac e h→cp g w n ac e1 h1)∧∃x e' h',qL ty call m (.loop a) e1 h1=some (x,e',h')∧K x e' h') (m:=k+1) ⟨e,h,fun _ _ _ s=>s,x,e',h',hx,hk⟩ ?_;rintro m e h ⟨e1,h1,hs,x,e',h',hx,hk⟩;intro g0 w0 g w ac s hE
  match m,hx with
  |m+1,hx=>
   have hx:(match qL ty call (m+1) a e1 h1 with
    |some (.normal,e,h)=>match Pb a e h with
     |some (e,h)=>qL ty call m (.loop a) e h
     |none=>none
    |x=>x)=some (x,e',h'):=hx
   split at hx
   ·rename_i e2 h2 he
    split at hx
    ·rename_i e3 h3 hg
     refine iT hty aC hc a (m+1) e1 h1 hok' he _ ?_ g0 w0 g w ac (hs _ _ _ s) hE;exact⟨m,Nat.lt_succ_self _,e3,h3,fun g w ac s=>LY hg s,x,e',h',hx,hk⟩
    ·cases hx
   ·rename_i hne
    refine iT hty aC hc a (m+1) e1 h1 hok' hx _ ?_ g0 w0 g w ac (hs _ _ _ s) hE
    cases x with
    |normal=>exact absurd hx (hne e' h')
    |_=>exact hk
 |.exit i,k+1,e,h,x,e',h',hok,hx,K,hk=>by
  have hx:some (Exit.exit i,e,h)=some (x,e',h'):=hx
  cases hx;exact iN.fin hty aC hok hk
 |.ret,k+1,e,h,x,e',h',hok,hx,K,hk=>by
  have hx:some (Exit.ret,e,h)=some (x,e',h'):=hx
  cases hx;exact iN.fin hty aC hok hk
 |.rangeFunc ..,k+1,_,_,_,_,_,_,hx,_,_=>by cases hx
 |.scope _,k+1,_,_,_,_,_,_,hx,_,_=>by cases hx
 |.label _,k+1,_,_,_,_,_,_,hx,_,_=>by cases hx
 |.goto _,k+1,_,_,_,_,_,_,hx,_,_=>by cases hx
 |.refuse _,k+1,_,_,_,_,_,_,hx,_,_=>by cases hx
end
mutual
def AV.names:AV→List Nat
 |.agg cs=>AV.rZ cs
 |.cA cs=>AV.rZ cs
 |.fn _ a b=>AV.rZ a++AV.rZ b
 |.ptr l _=>[l]
 |.ar l=>[l]
 |.ap l _=>[l]
 |_=>[]
def AV.rZ:List AV→List Nat
 | []=>[]
 |v::r=>AV.names v++AV.rZ r
end
def br.names:br→List Nat
 |.cells cs=>AV.rZ cs
 |_=>[]
def Hr:Heap→List Nat
 | []=>[]
 |(l,.bK _ _)::r=>l::Hr r
 |_::r=>Hr r
noncomputable def reach (h:Heap) (k:Nat):List Nat→List Nat→List Nat:=
 @Nat.rec (fun _=>List Nat→List Nat→List Nat) (fun _ R=>R) (fun _ ih l R=>match l with
  | []=>R
  |x::r=>match bB R x with
   |true=>ih r R
   |false=>match aG h x with
    |some ob=>ih (ob.names++r) (R++[x])
    |none=>ih r R) k
def GS (h:Heap):Nat→Option Heap
 |0=>some []
 |k+1=>match aG h (bP+k),GS h k with
  |some ob,some r=>some ((bP+k,ob)::r)
  |_,_=>none
def Ge (f:Nat):List (Nat×Func×Code)→Option (Func×Code)
 | []=>none
 |(k,x)::r=>match Nat.beq k f with|true=>some x|false=>Ge f r
def Oy:Exit→Bool
 |.normal=>true
 |.ret=>true
 |_=>false
section
variable (ty:Nat→Option TI) (fns:List (Nat×Func×Code)) (ext:Nat→List AV→Heap→Option (List Nat×Heap×AV))
noncomputable def Mc (kl:Nat) (call:Nat→List AV→Heap→Option (List Nat×Heap×AV)) (f:Nat) (args:List AV) (hs:Heap):Option (AV×Heap):=
 match Ge f fns with
 |none=>none
 |some (fn,c)=>match Nat.ble args.length fn.ntmps with
  |false=>none
  |true=>match qL ty call kl c (lu 0 args) hs with
   |none=>none
   |some (x,e,h1)=>match Oy x with
    |false=>none
    |true=>match lO ty fn.results.toList fn.resultTypes.toList e h1 with
     |none=>none
     |some v=>match GS h1 hs.length with
      |none=>none
      |some h'=>match v.within (bB (aO h'))&&mD (bB (aO h')) h'&&fK hs h' with
       |true=>some (v,h')
       |false=>none
noncomputable def Ko (kl:Nat) (call:Nat→List AV→Heap→Option (List Nat×Heap×AV)) (f:Nat) (args:List AV) (h:Heap):Option (List Nat×Heap×AV):=
 match ext f args h with
 |some (rd,hw,r)=>fV r fun r=>some (rd,hw,r)
 |none=>O6 (reach h 1000 (Hr h++AV.rZ args) []) fun R=>match AV.dB (bB R) args&&nodupB R with
  |false=>none
  |true=>match oC h (fR R 0) (bB R) R 0 with
   |none=>none
   |some hs=>My (AV.oQ (fR R 0) args) fun az=>fH hs fun hs=>match Mc ty fns kl call f az hs with
    |none=>none
    |some (v,h')=>match nodupB (aO h')&&ox h 500 R.length (aO h')&&kB (aO h') R.length with
     |true=>fV (v.wv (ef R 500)) fun v=>fH (dR R 500 h') fun h'=>some (R,h',v)
     |false=>none
noncomputable def N6 (kl k:Nat):Nat→List AV→Heap→Option (List Nat×Heap×AV):=
 @Nat.rec (fun _=>Nat→List AV→Heap→Option (List Nat×Heap×AV)) (fun _ _ _=>none) (fun _ ih=>Ko ty fns ext kl ih) k
end
theorem I5.refl:∀cs:List AV,I5 cs cs
 | []=>trivial
 |_::r=>⟨.inl rfl,I5.refl r⟩
theorem vP.refl (o:br):vP o o:=by
 cases o with
 |cells cs=>exact I5.refl cs
 |arr xs=>rfl
 |bK b vs=>exact⟨rfl,rfl⟩
 |store=>exact⟨rfl,rfl,rfl,rfl,rfl,rfl⟩
theorem CD (h:Heap):∀(k:Nat) {h':Heap},GS h k=some h'→mC h h'
 |0,h',hx=>by cases hx;trivial
 |k+1,h',hx=>by
  rw[GS]at hx;split at hx
  ·rename_i ob r h1 h2
   cases hx;exact⟨by rw[h1];exact vP.refl ob,CD h k h2⟩
  ·cases hx
structure Lf (P:Program) (x:Nat×Func×Code):Prop where
 get:P.funcs[x.1]?=some x.2.1
 body:x.2.1.body=some x.2.2
 name:(x.2.1.name== "runtime.NumGoroutine")=false
 ok:bF x.2.1.ntmps x.2.2=true
section
variable {P:Program} {ty:Nat→Option TI} {fns:List (Nat×Func×Code)} {ext:Nat→List AV→Heap→Option (List Nat×Heap×AV)}
theorem Af {f:Nat}:∀{l:List (Nat×Func×Code)} {x:Func×Code},Ge f l=some x→(f,x)∈l
 |(k,y)::r,x,hx=>by
  rw[Ge]at hx;split at hx
  ·rename_i hb;cases hx;rw[←Nat.eq_of_beq_eq_true hb];exact List.mem_cons_self ..
  ·exact List.mem_cons_of_mem _ (Af hx)
theorem GR (hty:bz P ty) (aC:P.follows .mixedOrders=true) (hf:∀x∈fns,Lf P x) {kl:Nat} {call:Nat→List AV→Heap→Option (List Nat×Heap×AV)} (hc:∀g l H rd hw r,call g l H=some (rd,hw,r)→∀K:List Nat→Heap→AV→Prop,K rd hw r→dj P g l H K) {f:Nat} {args:List AV} {hs h':Heap} {r:AV}
 (hx:Mc ty fns kl call f args hs=some (r,h')):av P f args hs r h':=by
 unfold Mc at hx;split at hx
 ·cases hx
 ·rename_i fn c hl
  have hF:=hf _ (Af hl);split at hx
  ·cases hx
  ·rename_i hble
   split at hx
   ·cases hx
   ·rename_i x e h1 hcode
    split at hx
    ·cases hx
    ·rename_i hend
     split at hx
     ·cases hx
     ·rename_i v hv
      split at hx
      ·cases hx
      ·rename_i h2 hkeep
       split at hx
       ·rename_i c1
        cases hx;refine av.pZ hty hF.get hF.body hF.name (Nat.le_of_ble_eq_true hble) c1 ?_;refine iT hty aC hc c kl _ _ hF.ok hcode _ ?_
        have fin:(match lO ty fn.results.toList fn.resultTypes.toList e h1 with|some v1=>xU v1 r∧mC h1 h'|none=>False):=by
         rw[hv];exact⟨.inl rfl,CD h1 _ hkeep⟩
        cases x with
        |normal=>exact fin
        |ret=>exact fin
        |_=>cases hend
       ·cases hx
theorem JE (hty:bz P ty) (aC:P.follows .mixedOrders=true) (hf:∀x∈fns,Lf P x) (he:∀f args h rd hw r,ext f args h=some (rd,hw,r)→∀K:List Nat→Heap→AV→Prop,K rd hw r→dj P f args h K) (kl:Nat) {call:Nat→List AV→Heap→Option (List Nat×Heap×AV)} (hc:∀g l H rd hw r,call g l H=some (rd,hw,r)→∀K:List Nat→Heap→AV→Prop,K rd hw r→dj P g l H K):
 ∀g l H rd hw r,Ko ty fns ext kl call g l H=some (rd,hw,r)→∀K:List Nat→Heap→AV→Prop,K rd hw r→dj P g l H K:=by
 intro f args h rd hw r hx K hk;unfold Ko at hx;split at hx
 ·rename_i hr
  rw[J6]at hx;cases hx;exact he _ _ _ _ _ _ hr K hk
 ·simp only[FF]at hx
  split at hx
  ·cases hx
  ·rename_i hR
   split at hx
   ·cases hx
   ·rename_i hs hsub
    simp only[Ch,MC,J6]at hx;split at hx
    ·cases hx
    ·rename_i v h' hm
     split at hx
     ·rename_i c2
      cases hx;exact .mem _ 500 hs v h' hR hsub (GR hty aC hf hc hm) c2 hk
     ·cases hx
theorem GU (hty:bz P ty) (aC:P.follows .mixedOrders=true) (hf:∀x∈fns,Lf P x) (he:∀f args h rd hw r,ext f args h=some (rd,hw,r)→∀K:List Nat→Heap→AV→Prop,K rd hw r→dj P f args h K) (kl:Nat):∀(k:Nat),∀g l H rd hw r,N6 ty fns ext kl k g l H=some (rd,hw,r)→∀K:List Nat→Heap→AV→Prop,K rd hw r→dj P g l H K
 |0=>fun _ _ _ _ _ _ hx=>by cases hx
 |k+1=>JE hty aC hf he kl (GU hty aC hf he kl k)
end
end Go.AM
end
section
open Go Go.AM Go.Proofs
set_option maxRecDepth 100000
namespace XE
noncomputable def dF (f:Nat) (F:Func):Nat×Func×Code:=(f,F,F.body.getD .skip)
noncomputable def fns:List (Nat×Func×Code):=[dF 41 Tryz.f41,dF 43 Tryz.f43,dF 44 Tryz.f44,dF 45 Tryz.f45,dF 55 Tryz.f55,dF 56 Tryz.f56,dF 57 Tryz.f57,dF 58 Tryz.f58,dF 59 Tryz.f59,dF 60 Tryz.f60,dF 61 Tryz.f61,dF 62 Tryz.f62,dF 63 Tryz.f63,dF 64 Tryz.f64,dF 65 Tryz.f65,dF 66 Tryz.f66,dF 67 Tryz.f67,dF 68 Tryz.f68,dF 69 Tryz.f69,dF 70 Tryz.f70,dF 71 Tryz.f71,dF 72 Tryz.f72,dF 73 Tryz.f73,dF 74 Tryz.f74,dF 75 Tryz.f75,dF 82 Tryz.f82,dF 83 Tryz.f83,dF 85 Tryz.f85,dF 86 Tryz.f86,dF 87 Tryz.f87,dF 88 Tryz.f88,dF 89 Tryz.f89,dF 90 Tryz.f90,dF 91 Tryz.f91,dF 92 Tryz.f92,dF 94 Tryz.f94,dF 95 Tryz.f95,dF 96 Tryz.f96,dF 97 Tryz.f97,dF 98 Tryz.f98,dF 99 Tryz.f99,dF 100 Tryz.f100,dF 101 Tryz.f101,dF 102 Tryz.f102,dF 103 Tryz.f103,dF 104 Tryz.f104,dF 105 Tryz.f105,dF 106 Tryz.f106,dF 107 Tryz.f107,dF 108 Tryz.f108,dF 109 Tryz.f109,dF 110 Tryz.f110,dF 111 Tryz.f111,dF 112 Tryz.f112,dF 113 Tryz.f113,dF 114 Tryz.f114,dF 115 Tryz.f115,dF 116 Tryz.f116,dF 121 Tryz.f121,dF 124 Tryz.f124,dF 126 Tryz.f126,dF 127 Tryz.f127,dF 130 Tryz.f130,dF 131 Tryz.f131,dF 132 Tryz.f132,dF 133 Tryz.f133,dF 134 Tryz.f134,dF 135 Tryz.f135,dF 136 Tryz.f136,dF 137 Tryz.f137,dF 138 Tryz.f138,dF 139 Tryz.f139,dF 140 Tryz.f140,dF 141 Tryz.f141,dF 142 Tryz.f142,dF 143 Tryz.f143,dF 144 Tryz.f144,dF 151 Tryz.f151,dF 157 Tryz.f157,dF 158 Tryz.f158,dF 159 Tryz.f159,dF 160 Tryz.f160,dF 161 Tryz.f161,dF 162 Tryz.f162,dF 163 Tryz.f163,dF 164 Tryz.f164,dF 165 Tryz.f165,dF 166 Tryz.f166,dF 167 Tryz.f167,dF 168 Tryz.f168,dF 169 Tryz.f169,dF 170 Tryz.f170,dF 171 Tryz.f171,dF 172 Tryz.f172,dF 182 Tryz.f182,dF 183 Tryz.f183,dF 184 Tryz.f184,dF 185 Tryz.f185,dF 186 Tryz.f186,dF 187 Tryz.f187,dF 188 Tryz.f188,dF 189 Tryz.f189,dF 192 Tryz.f192,dF 195 Tryz.f195,dF 201 Tryz.f201]
def N9:List Value→Bool
 | [.nilIface]=>true
 | [.iface _ _]=>true
 |_=>false
noncomputable def ext (f:Nat) (a:List AV) (h:Heap):Option (List Nat×Heap×AV):=match Nat.beq f 123 with
 |true=>match a with
  | []=>some ([],[],.p (.sl 1 (TK.sx.map TK.bE)))
  |_=>none
 |false=>match Nat.beq f 125 with
  |true=>match a with
   | [.p (.s ⟨⟨l⟩⟩),.p (.s ⟨⟨[c]⟩⟩)]=>some ([],[],.p (.b (decide (Lib.indexByte l c≥0))))
   |_=>none
  |false=>match Nat.beq f 84 with
   |true=>match a with
    | [.p (.s ⟨⟨l⟩⟩)]=>some ([],[],.p (.b (TK.MR l)))
    |_=>none
   |false=>match Nat.beq f 150 with
    |true=>match a with
     | [.p (.s ⟨⟨l⟩⟩),.p (.s ⟨⟨[c]⟩⟩)]=>match Nat.beq c.toNat 32&&Nat.ble l.length 1000 with
       |true=>some ([],[],.p (.sl 1 ((TK.fm 32 l).map TK.bE)))
       |false=>none
     |_=>none
    |false=>match Nat.beq f 93 with
     |true=>match Hr h,a with
      |l::_,[.p (.s ⟨⟨[c]⟩⟩),.p (.i .i64 10),.p (.i .i64 64)]=>match aG h l with
       |some (.bK 2 tab)=>match N9 tab&&PA.PE (Lib.parseIntB 64 [c]) with
        |true=>some ([l],[(l,.bK 2 tab)],.cA [.p (.i .i64 (PA.Kg ⟨⟨[c]⟩⟩).1),.v7 (PA.Kg ⟨⟨[c]⟩⟩).2])
        |false=>none
       |_=>none
      |_,_=>none
     |false=>none
noncomputable def mem (f:Nat) (args:List AV) (h:Heap):=Mc (jQ Tryz.prog) fns 400 (N6 (jQ Tryz.prog) fns ext 400 40) f args h
theorem Je:∀x∈fns,Lf Tryz.prog x:=by
 unfold fns
 repeat' refine List.forall_mem_cons.2 ⟨⟨by kernel_rfl,by rfl,by kernel_rfl,by kernel_rfl⟩,?_⟩
 exact List.forall_mem_nil _
end XE
end
