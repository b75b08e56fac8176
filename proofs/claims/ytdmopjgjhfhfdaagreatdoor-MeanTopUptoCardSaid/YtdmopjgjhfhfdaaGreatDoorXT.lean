/- Contracts, and the law, for every input. No conditions. -/
import Derived.Test.YtdmopjgjhfhfdaaGreatDoorAMX3
set_option linter.all false
set_option maxRecDepth 100000
section
namespace Go.AM
section
variable {α β:Type}
noncomputable def fN (n:Nat) (K:Nat->α):α:=@Nat.rec (fun _=>(Nat->α)->α) (fun K=>K 0) (fun m _ K=>K (Nat.succ m)) n K
noncomputable def fI (i:Int) (K:Int->α):α:=match i with
 |.ofNat n=>fN n fun n=>K (.ofNat n)
 |.negSucc n=>fN n fun n=>K (.negSucc n)
noncomputable def fB (b:Bool) (K:Bool->α):α:=match b with
 |true=>K true
 |false=>K false
noncomputable def fL (l:List β) (K:List β->α):α:=@List.rec β (fun _=>(List β->α)->α) (fun K=>K []) (fun x _ ih K=>ih fun r=>K (x::r)) l K
noncomputable def fP (v:PV) (K:PV->α):α:=match v with
 |.i k n=>fI n fun n=>K (.i k n)
 |.b b=>fB b fun b=>K (.b b)
 |.s ⟨⟨l⟩⟩=>fL l fun l=>K (.s ⟨⟨l⟩⟩)
 |.sl z xs=>fN z fun z=>fL xs fun xs=>K (.sl z xs)
 |.agg xs=>fL xs fun xs=>K (.agg xs)
 |v=>K v
noncomputable def PW (v:AV) (K:AV->α):α:=match v with
 |.p x=>fP x fun x=>K (.p x)
 |.so z xs=>fN z fun z=>fL xs fun xs=>K (.so z xs)
 |.ptr l off=>fN l fun l=>fN off fun off=>K (.ptr l off)
 |v=>K v
noncomputable def NY (l:List AV) (K:List AV->α):α:=@List.rec AV (fun _=>(List AV->α)->α) (fun K=>K []) (fun x _ ih K=>PW x fun x=>ih fun r=>K (x::r)) l K
noncomputable def fV (v:AV) (K:AV->α):α:=match v with
 |.agg cs=>NY cs fun cs=>K (.agg cs)
 |.cI cs=>NY cs fun cs=>K (.cI cs)
 |.fn f a b=>NY a fun a=>NY b fun b=>K (.fn f a b)
 |v=>PW v K
noncomputable def fE (l:Env) (K:Env->α):α:=@List.rec (Nat×AV) (fun _=>(Env->α)->α) (fun K=>K []) (fun x _ ih K=>match x with
 |(d,v)=>fV v fun v=>ih fun r=>K ((d,v)::r)) l K
noncomputable def fO (o:bu) (K:bu->α):α:=match o with
 |.cells cs=>NY cs fun cs=>K (.cells cs)
 |o=>K o
noncomputable def fH (l:Heap) (K:Heap->α):α:=@List.rec (Nat×bu) (fun _=>(Heap->α)->α) (fun K=>K []) (fun x _ ih K=>match x with
 |(d,v)=>fN d fun d=>fO v fun v=>ih fun r=>K ((d,v)::r)) l K
noncomputable def Qu (l:List Nat) (K:List Nat->α):α:=@List.rec Nat (fun _=>(List Nat->α)->α) (fun K=>K []) (fun x _ ih K=>fN x fun x=>ih fun r=>K (x::r)) l K
noncomputable def fF (b:Bool) (f:eB) (K:eB->α):α:=match b with
 |true=>K f
 |false=>match f with
  |⟨rd,ew,hw⟩=>fE ew fun ew=>K ⟨rd,ew,hw⟩
theorem Dm (n:Nat) (K:Nat->α):fN n K=K n:=by cases n<;>rfl
theorem Qn (n:Int) (K:Int->α):fI n K=K n:=by cases n<;>exact Dm _ _
theorem PL (n:Bool) (K:Bool->α):fB n K=K n:=by cases n<;>rfl
theorem G5:∀(l:List β) (K:List β->α),fL l K=K l
 | [],_=>rfl
 |x::r,K=>G5 r (fun r=>K (x::r))
theorem Qd (v:PV) (K:PV->α):fP v K=K v:=by
 unfold fP;split<;>simp only[Dm,Qn,PL,G5]
theorem Kn (v:AV) (K:AV->α):PW v K=K v:=by
 unfold PW;split<;>simp only[Dm,Qd,G5]
theorem B0:∀(l:List AV) (K:List AV->α),NY l K=K l
 | [],_=>rfl
 |x::r,K=>by
  show PW x (fun x=>NY r fun r=>K (x::r))=_;rw[Kn,B0 r]
theorem Ln (v:AV) (K:AV->α):fV v K=K v:=by
 unfold fV;split<;>simp only[B0,Kn]
theorem N0:∀(l:Env) (K:Env->α),fE l K=K l
 | [],_=>rfl
 |(d,v)::r,K=>by
  show fV v (fun v=>fE r fun r=>K ((d,v)::r))=_;rw[Ln,N0 r]
theorem P0 (o:bu) (K:bu->α):fO o K=K o:=by
 unfold fO;split<;>simp only[B0]
theorem NM:∀(l:Heap) (K:Heap->α),fH l K=K l
 | [],_=>rfl
 |(d,v)::r,K=>by
  show fN d (fun d=>fO v fun v=>fH r fun r=>K ((d,v)::r))=_;rw[Dm,P0,NM r]
theorem GY:∀(l:List Nat) (K:List Nat->α),Qu l K=K l
 | [],_=>rfl
 |x::r,K=>by
  show fN x (fun x=>Qu r fun r=>K (x::r))=_;rw[Dm,GY r]
theorem Qb (b:Bool) (f:eB) (K:eB->α):fF b f K=K f:=by
 unfold fF;split
 ·rfl
 ·simp only[N0]
def RB (o:Oper):Bool:=match o.op with
 |.move _=>true
 |.assign _=>true
 |.load ..=>true
 |_=>false
def yf:List (Nat×β)->List (Nat×β)->(List (Nat×β)->α)->α
 | [],e,K=>K e
 |x::r,e,K=>yf r (x::e) K
theorem yP:∀(r e:List (Nat×β)) (K:List (Nat×β)->α),yf r e K=K (r.reverse++e)
 | [],e,K=>rfl
 |x::r,e,K=>by rw[yf,yP r];simp
end
section
variable (ty:Nat->Option TI) (call:Nat->List AV->Heap->Option (List Nat×Heap×AV))
def QG (mv:Nat->Bool) (o:Oper) (e:Env) (h:Heap):Option eB:=match L2 ty o e with
 |true=>none
 |false=>Ot ty call mv o e h
def BN (ops:List Oper) (o:Oper) (e:Env):Option (Bool×Env):=match o.guard with
 |none=>some (true,e)
 |some (j,want)=>match ops[j]? with
  |some og=>match og.dst with
   |some d=>match aL e d with
    |.p (.b g)=>some (MJ g want,(d,.p (.b g))::e)
    |.cI []=>some (false,e)
    |_=>none
   |none=>none
  |none=>none
def Kz (o:Oper) (e:Env):Env:=match o.dst with
 |some d=>(d,.cI [])::e
 |none=>e
noncomputable def JC (all l:List Oper):Env->Heap->List (Option eB)->Option (Env×Heap×List (Option eB)):=
 @List.rec Oper (fun _=>Env->Heap->List (Option eB)->Option (Env×Heap×List (Option eB)))
  (fun e h rs=>some (e,h,rs))
  (fun o _ ih e h rs=>match BN all o e with
    |some (true,e)=>match QG ty call (qx all) o e h with
     |some f=>fF (RB o) f fun f=>yf f.ew e fun e=>yf f.hw h fun h=>ih e h (some f::rs)
     |none=>none
    |some (false,e)=>ih (Kz o e) h (none::rs)
    |none=>none) l
theorem I2 (all:List Oper) (o:Oper) (r:List Oper) (e:Env) (h:Heap) (rs:List (Option eB)):JC ty call all (o::r) e h rs=match BN all o e with
 |some (true,e)=>match QG ty call (qx all) o e h with
  |some f=>fF (RB o) f fun f=>yf f.ew e fun e=>yf f.hw h fun h=>JC ty call all r e h (some f::rs)
  |none=>none
 |some (false,e)=>JC ty call all r (Kz o e) h (none::rs)
 |none=>none:=rfl
def Mt (draw:Bool) (ops:List Oper):Option (Env×Heap×List (Option eB))->Option (Exit×Env×Heap)
 |none=>none
 |some (e,h,rs)=>match draw with
  |false=>some (.normal,e,h)
  |true=>match JZ ops rs with
   |true=>some (.normal,e,h)
   |false=>none
def MV (id:Nat):Option (Exit×Env×Heap)->Option (Exit×Env×Heap)
 |some (.exit i,e,h)=>match Nat.beq i id with
  |true=>some (.normal,e,h)
  |false=>some (.exit i,e,h)
 |x=>x
noncomputable def PS (c:Code):List Nat:=
 @Code.rec (fun _=>List Nat) [] (fun _ ops _=>ops.toList.filterMap (·.dst)) (fun _ _ a b=>a++b) (fun _ _ _ a b=>a++b) (fun _ _ a=>a) (fun _ a=>a) (fun _ _ _ _ _ _=>[]) (fun _=>[]) (fun _ _=>[]) (fun _=>[]) (fun _=>[]) [] (fun _=>[]) c
noncomputable def GQ (d:Nat->Bool) (l:Env):Nat->Env:=
 @List.rec (Nat×AV) (fun _=>Nat->Env) (fun _=>[]) (fun x _ ih s=>match Nat.testBit s x.1 with
  |true=>ih s
  |false=>match x.2.within d with
   |true=>x::ih (Nat.lor s (Nat.pow 2 x.1))
   |false=>ih (Nat.lor s (Nat.pow 2 x.1))) l
def BT (d:Nat->Bool) (K:List Nat):Heap->Heap
 | []=>[]
 |(l,o)::r=>match aW K l||d l with
  |true=>BT d K r
  |false=>(l,o)::BT d (l::K) r
def RJ (D:List Nat) (h:Heap):Heap:=BT (aW D) [] h
noncomputable def Qv (c:Code) (e:Env) (h:Heap):Option (Env×Heap):=
 fL (RJ (PS c) h) fun h'=>Qu (aO h') fun ks=>match lR (aW ks) h' with
 |true=>fL (GQ (aW ks) e 0) fun e=>some (e,h')
 |false=>none
noncomputable def rO (k:Nat):Code->Env->Heap->Option (Exit×Env×Heap):=
 @Nat.rec (fun _=>Code->Env->Heap->Option (Exit×Env×Heap)) (fun _ _ _=>none)
  (fun _ ih c0=>@Code.rec (fun _=>Env->Heap->Option (Exit×Env×Heap))
    (fun e h=>some (.normal,e,h))
    (fun _ ops draw e h=>Mt draw ops.toList (JC ty call ops.toList ops.toList e h []))
    (fun _ _ iha ihb e h=>match iha e h with
      |some (.normal,e,h)=>ihb e h
      |x=>x)
    (fun c _ _ iha ihb e h=>match ev e c with
      |.p (.b true)=>iha e h
      |.p (.b false)=>ihb e h
      |_=>none)
    (fun id _ ihc e h=>MV id (ihc e h))
    (fun c ihc e h=>match ihc e h with
      |some (.normal,e,h)=>match Qv c e h with
       |some (e,h)=>ih (.loop c) e h
       |none=>none
      |x=>x)
    (fun _ _ _ _ _ _ _ _=>none)
    (fun i e h=>some (.exit i,e,h))
    (fun _ _ _ _=>none) (fun _ _ _=>none) (fun _ _ _=>none)
    (fun e h=>some (.ret,e,h))
    (fun _ _ _=>none) c0) k
end
section
variable {ty:Nat->Option TI} {call:Nat->List AV->Heap->Option (List Nat×Heap×AV)} {pc:Nat->List AV->Heap->(List Nat->Heap->AV->Prop)->Prop}
theorem Lr (hc:∀g l H rd hw r,call g l H=some (rd,hw,r)->∀K:List Nat->Heap->AV->Prop,K rd hw r->pc g l H K) {mv:Nat->Bool} {o:Oper} {e:Env} {h:Heap} {f:eB} {K:AK} (hx:QG ty call mv o e h=some f) (hk:K f):Nl ty pc mv o e h K:=by
 unfold QG at hx;unfold Nl
 cases hd:L2 ty o e with
 |true=>rw[hd]at hx;cases hx
 |false=>rw[hd]at hx;exact Mp hc hx hk
theorem qU {ops:List Oper} {o:Oper} {e e1:Env} {b:Bool} {S X:Env->Prop} (hx:BN ops o e=some (b,e1)) (hk:match b with|true=>X e1|false=>S e1):guardOf ops o e S X:=by
 unfold BN at hx;unfold guardOf
 cases hg:o.guard with
 |none=>rw[hg]at hx;cases hx;exact hk
 |some p=>
  obtain⟨j,want⟩:=p;rw[hg]at hx;dsimp only at hx ⊢;split at hx
  ·rename_i og h1
   rw[h1];dsimp only;split at hx
   ·rename_i d h2
    rw[h2];dsimp only;split at hx
    ·rename_i g h3
     rw[h3];dsimp only;cases hx
     cases g<;>cases want<;>exact hk
    ·rename_i h3
     rw[h3];cases hx;exact hk
    ·cases hx
   ·cases hx
  ·cases hx
theorem Cs (hc:∀g l H rd hw r,call g l H=some (rd,hw,r)->∀K:List Nat->Heap->AV->Prop,K rd hw r->pc g l H K) (all:List Oper):∀(l:List Oper) (e:Env) (h:Heap) (rs:List (Option eB)) {e':Env} {h':Heap} {rs':List (Option eB)},JC ty call all l e h rs=some (e',h',rs')->
 (∀K:Env->Heap->Prop,K e' h'->Ae ty pc all l e h K)/\(∀K:Env->Heap->List (Option eB)->Prop,K e' h' rs'->zG ty pc all l e h rs K)
 | [],e,h,rs,e',h',rs',hx=>by cases hx;exact⟨fun _ hk=>hk,fun _ hk=>hk⟩
 |o::r,e,h,rs,e',h',rs',hx=>by
  rw[I2]at hx;split at hx
  ·rename_i e1 hg
   split at hx
   ·rename_i f hf
    rw[Qb,yP,yP]at hx;obtain⟨k1,k2⟩:=Cs hc all r _ _ _ hx;refine⟨fun K hk=>?_,fun K hk=>?_⟩
    ·rw[qS]
     refine qU hg ?_;refine Lr hc hf ?_;rw[lI,lD];exact k1 K hk
    ·rw[sZ]
     refine qU hg ?_;refine Lr hc hf ?_;rw[lI,lD];exact k2 K hk
   ·cases hx
  ·rename_i e1 hg
   obtain⟨k1,k2⟩:=Cs hc all r _ _ _ hx;unfold Kz at k1 k2;refine⟨fun K hk=>?_,fun K hk=>?_⟩
   ·rw[qS]
    refine qU hg ?_;show yR o e1 _;unfold yR
    cases hd:o.dst with
    |none=>rw[hd]at k1;exact k1 K hk
    |some d=>rw[hd]at k1;exact k1 K hk
   ·rw[sZ]
    refine qU hg ?_;show yR o e1 _;unfold yR
    cases hd:o.dst with
    |none=>rw[hd]at k2;exact k2 K hk
    |some d=>rw[hd]at k2;exact k2 K hk
  ·cases hx
end
theorem AZ (d:Nat->Bool):∀(l:Env) (s i:Nat),aL (GQ d l s) i=.top\/(Nat.testBit s i=false/\aL (GQ d l s) i=aL l i/\(aL l i).within d=true)
 | [],s,i=>.inl rfl
 |(k,v)::r,s,i=>by
  have ihs:=AZ d r
  have e1:GQ d ((k,v)::r) s=match Nat.testBit s k with
   |true=>GQ d r s
   |false=>match v.within d with
    |true=>(k,v)::GQ d r (Nat.lor s (Nat.pow 2 k))
    |false=>GQ d r (Nat.lor s (Nat.pow 2 k)):=rfl
  have bit:∀j,Nat.testBit (Nat.lor s (Nat.pow 2 k)) j=false->Nat.testBit s j=false/\k≠j:=by
   intro j hj;have:(s |||2 ^ k).testBit j=false:=hj;rw[Nat.testBit_or,Bool.or_eq_false_iff,Nat.testBit_two_pow]at this;exact⟨this.1,by simpa using this.2⟩
  rw[e1]
  cases h1:Nat.testBit s k with
  |true=>
   dsimp only;rcases ihs s i with h|⟨h,h',h''⟩
   ·exact .inl h
   ·have:k≠i:=fun q=>by rw[q,h]at h1;cases h1
    rw[bO this];exact .inr ⟨h,h',h''⟩
  |false=>
   dsimp only
   cases h2:v.within d with
   |true=>
    dsimp only
    by_cases q:k=i
    ·subst q;right;rw[bA,bA];exact⟨h1,rfl,h2⟩
    ·rw[bO q,bO q]
     rcases ihs _ i with h|⟨h,h',h''⟩
     ·exact .inl h
     ·exact .inr ⟨(bit i h).1,h',h''⟩
   |false=>
    dsimp only;rcases ihs (Nat.lor s (Nat.pow 2 k)) i with h|⟨h,h',h''⟩
    ·exact .inl h
    ·rw[bO (bit i h).2]
     exact .inr ⟨(bit i h).1,h',h''⟩
theorem wR {x:Nat} {K:List Nat} {l:Nat} (h:aW (x::K) l=false):x≠l/\aW K l=false:=by
 simp only[aW]at h;split at h
 ·cases h
 ·rename_i hb;exact⟨fun q=>by subst q;simp at hb,h⟩
theorem vY (d:Nat->Bool):∀(h:Heap) (K:List Nat) (l:Nat) (o:bu),aF (BT d K h) l=some o->aW K l=false/\aF h l=some o
 | [],K,l,o,hq=>by simp[BT,aF]at hq
 |(k,x)::r,K,l,o,hq=>by
  rw[BT]at hq;split at hq
  ·rename_i hb
   obtain⟨h1,h2⟩:=vY d r K l o hq;refine⟨h1,?_⟩
   by_cases q:k=l
   ·subst q
    exfalso;rw[h1,Bool.false_or]at hb;exact dedH_not d r K k hb _ hq
   ·rw[aT q];exact h2
  ·rename_i hb
   by_cases q:k=l
   ·subst q
    rw[aQ]at hq ⊢;cases hq;exact⟨(Bool.or_eq_false_iff.1 hb).1,rfl⟩
   ·rw[aT q]at hq ⊢
    obtain⟨h1,h2⟩:=vY d r (k::K) l o hq;exact⟨(wR h1).2,h2⟩
where
 dedH_not (d:Nat->Bool):∀(h:Heap) (K:List Nat) (l:Nat),d l=true->∀o,aF (BT d K h) l≠some o
 | [],K,l,_,o=>by simp[BT,aF]
 |(k,x)::r,K,l,hd,o=>by
  rw[BT];split
  ·exact dedH_not d r K l hd o
  ·rename_i hb
   by_cases q:k=l
   ·subst q;rw[hd,Bool.or_true]at hb;cases hb
   ·rw[aT q];exact dedH_not d r (k::K) l hd o
section
variable {P:Program} {ty:Nat->Option TI} {n:Nat}
theorem cw.sub {g:Gh} {w:World} {a:Act} {e e':Env} {h h':Heap} (s:cw g w n a e h) (he:∀i,aL e' i=.top\/(aL e' i=aL e i/\(aL e i).within (aW (aO h'))=true)) (h1:∀l o,aF h' l=some o->aF h l=some o) (h2:lR (aW (aO h')) h'=true):cw g w n a e' h':=by
 have hd:∀l,aW (aO h') l=true->aE h' l:=fun l hl=>by
  obtain⟨ob,hob⟩:=dU h' l (jf _ _ hl);unfold aE;rw[hob];rfl
 refine⟨s.defers,s.size,fun i=>?_,⟨fun l o hl=>?_,fun l o hl=>s.heap.own l o (h1 l o hl),fun l o hl=>s.heap.pre l o (h1 l o hl)⟩,s.bnd⟩
 ·rcases he i with q|⟨q,q'⟩
  ·rw[q];exact .top _ _
  ·rw[q];exact(s.env i).within hd q'
 ·have hw:=lY h' h2 l o hl
  cases s.heap.obj l o (h1 l o hl) with
  |cells cs vs E hb hlen hx' h1'=>exact .cells cs vs E hb hlen (fun j v c r1 r2=>(hx' j v c r1 r2).within hd (bZ _ cs (by simpa[bu.within] using hw) j c r2)) h1'
  |arr xs vs E hb hlen hx' h1'=>exact .arr xs vs E hb hlen hx' h1'
  |store T3 o3 sp3 nx3 z3 M3 hst=>exact .store T3 o3 sp3 nx3 z3 M3 hst
  |bJ gb gvs hgl=>exact .bJ gb gvs hgl
theorem Mg {c:Code} {e e':Env} {h h':Heap} (hx:Qv c e h=some (e',h')) {g:Gh} {w:World} {a:Act} (s:cw g w n a e h):cw g w n a e' h':=by
 unfold Qv at hx;simp only[G5,GY]at hx;split at hx
 ·rename_i ho
  cases hx;refine s.sub (fun i=>?_) (fun l o q=>(vY _ _ _ _ _ q).2) ho;rcases AZ (aW (aO (RJ (PS c) h))) e 0 i with q|⟨_,q,q'⟩
  ·exact .inl q
  ·exact .inr ⟨q,q'⟩
 ·cases hx
theorem jh.block {id:Nat} {c:Code} {K:Exit->Env->Heap->Prop} {e:Env} {h:Heap} (hk:jh P n c (fun x e h=>match x with
 |.exit i=>match Nat.beq i id with|true=>K .normal e h|false=>K (.exit i) e h
 |x=>K x e h) e h):jh P n (.block id c) K e h:=by
 intro g0 w0 g w a s hE;refine wp_block (wp_mono (hk g0 w0 g w a s hE) ?_);rintro ex a' w' ⟨g',e',h',hk',s',hE'⟩
 cases ex with
 |exit i=>
  simp only[Exit.inBlock]
  by_cases q:i=id
  ·subst q
   rw[if_pos rfl];simp only[mj]at hk';exact⟨g',e',h',hk',s',hE'⟩
  ·rw[if_neg q]
   simp only[beq_false q]at hk';exact⟨g',e',h',hk',s',hE'⟩
 |_=>exact⟨g',e',h',hk',s',hE'⟩
end
section
variable {P:Program} {ty:Nat->Option TI} {n:Nat} {call:Nat->List AV->Heap->Option (List Nat×Heap×AV)}
theorem Na {draw:Bool} {ops:List Oper} {r:Option (Env×Heap×List (Option eB))} {x:Exit} {e':Env} {h':Heap} (hx:Mt draw ops r=some (x,e',h')):x=.normal/\∃rs,r=some (e',h',rs)/\(draw=true->JZ ops rs=true):=by
 unfold Mt at hx;split at hx
 ·cases hx
 ·rename_i e h rs
  cases draw with
  |false=>cases hx;exact⟨rfl,rs,rfl,fun q=>by cases q⟩
  |true=>
   dsimp only at hx;split at hx
   ·rename_i hi;cases hx;exact⟨rfl,rs,rfl,fun _=>hi⟩
   ·cases hx
theorem MX {id:Nat} {r:Option (Exit×Env×Heap)} {x:Exit} {e':Env} {h':Heap} (hx:MV id r=some (x,e',h')) {K:Exit->Env->Heap->Prop} (hk:K x e' h'):∃y e1 h1,r=some (y,e1,h1)/\(match y with
 |.exit i=>match Nat.beq i id with|true=>K .normal e1 h1|false=>K (.exit i) e1 h1
 |x=>K x e1 h1):=by
 unfold MV at hx;split at hx
 ·rename_i i e h
  split at hx
  ·rename_i hb;cases hx;exact⟨_,_,_,rfl,by simp only[hb];exact hk⟩
  ·rename_i hb;cases hx;exact⟨_,_,_,rfl,by simp only[hb];exact hk⟩
 ·rename_i hne
  subst hx;refine⟨x,e',h',rfl,?_⟩
  cases x with
  |exit i=>exact absurd rfl (hne i e' h')
  |_=>exact hk
theorem jo (hty:bB P ty) (av:P.follows .mixedOrders=true) (hc:∀g l H rd hw r,call g l H=some (rd,hw,r)->∀K:List Nat->Heap->AV->Prop,K rd hw r->cU P g l H K):∀(c:Code) (k:Nat) (e:Env) (h:Heap) {x:Exit} {e':Env} {h':Heap},bE n c=true->rO ty call k c e h=some (x,e',h')->∀K:Exit->Env->Heap->Prop,K x e' h'->jh P n c K e h
 |_,0,_,_,_,_,_,_,hx,_,_=>by cases hx
 |.skip,k+1,e,h,x,e',h',hok,hx,K,hk=>by
  have hx:some (Exit.normal,e,h)=some (x,e',h'):=hx
  cases hx;exact jh.fin hty av hok hk
 |.region id ops draw,k+1,e,h,x,e',h',hok,hx,K,hk=>by
  obtain⟨rfl,rs,h1,h2⟩:=Na (show Mt draw ops.toList (JC ty call ops.toList ops.toList e h [])=some (x,e',h') from hx);obtain⟨k1,k2⟩:=Cs hc ops.toList ops.toList e h [] h1;refine jh.fin hty av hok ?_
  cases draw with
  |false=>exact k1 (fun e h=>K .normal e h) hk
  |true=>exact k2 (fun e1 h1 rs=>dF (P4 ty (cU P) ops.toList rs e1 h1) (K .normal e1 h1)) ⟨.inl (h2 rfl),hk⟩
 |.seq a b,k+1,e,h,x,e',h',hok,hx,K,hk=>by
  have hok':bE n a=true/\bE n b=true:=by simpa[bE] using hok
  have hx:(match rO ty call (k+1) a e h with|some (.normal,e,h)=>rO ty call (k+1) b e h|x=>x)=some (x,e',h'):=hx;refine jh.seq ?_;split at hx
  ·rename_i e1 h1 he
   exact jo hty av hc a (k+1) e h hok'.1 he _ (jo hty av hc b (k+1) e1 h1 hok'.2 hx K hk)
  ·rename_i hne
   refine jo hty av hc a (k+1) e h hok'.1 hx _ ?_
   cases x with
   |normal=>exact absurd hx (hne e' h')
   |_=>exact hk
 |.cond c a b,k+1,e,h,x,e',h',hok,hx,K,hk=>by
  have hok':bE n a=true/\bE n b=true:=by simpa[bE] using hok
  have hx:(match Go.AM.ev e c with|.p (.b true)=>rO ty call (k+1) a e h|.p (.b false)=>rO ty call (k+1) b e h|_=>none)=some (x,e',h'):=hx;intro g0 w0 g w ac s hE;obtain⟨_,r⟩:=s.ev c;split at hx
  ·rename_i hb
   rw[hb]at r;exact wp_cond r.bool (jo hty av hc a (k+1) e h hok'.1 hx K hk g0 w0 g w ac s hE)
  ·rename_i hb
   rw[hb]at r;exact wp_cond r.bool (jo hty av hc b (k+1) e h hok'.2 hx K hk g0 w0 g w ac s hE)
  ·cases hx
 |.block id a,k+1,e,h,x,e',h',hok,hx,K,hk=>by
  have hok':bE n a=true:=by simpa[bE] using hok
  obtain⟨y,e1,h1,q1,q2⟩:=MX (show MV id (rO ty call (k+1) a e h)=some (x,e',h') from hx) hk;exact jh.block (jo hty av hc a (k+1) e h hok' q1 _ q2)
 |.loop a,k+1,e,h,x,e',h',hok,hx,K,hk=>by
  have hok':bE n a=true:=by simpa[bE] using hok
  refine jh.loop (fun m e h=>∃e1 h1,(∀g w ac,cw g w n ac e h->cw g w n ac e1 h1)/\∃x e' h',rO ty call m (.loop a) e1 h1=some (x,e',h')/\K x e' h') (m:=k+1) ⟨e,h,fun _ _ _ s=>s,x,e',h',hx,hk⟩ ?_;rintro m e h ⟨e1,h1,hs,x,e',h',hx,hk⟩;intro g0 w0 g w ac s hE
  match m,hx with
  |m+1,hx=>
   have hx:(match rO ty call (m+1) a e1 h1 with
    |some (.normal,e,h)=>match Qv a e h with
     |some (e,h)=>rO ty call m (.loop a) e h
     |none=>none
    |x=>x)=some (x,e',h'):=hx
   split at hx
   ·rename_i e2 h2 he
    split at hx
    ·rename_i e3 h3 hg
     refine jo hty av hc a (m+1) e1 h1 hok' he _ ?_ g0 w0 g w ac (hs _ _ _ s) hE;exact⟨m,Nat.lt_succ_self _,e3,h3,fun g w ac s=>Mg hg s,x,e',h',hx,hk⟩
    ·cases hx
   ·rename_i hne
    refine jo hty av hc a (m+1) e1 h1 hok' hx _ ?_ g0 w0 g w ac (hs _ _ _ s) hE
    cases x with
    |normal=>exact absurd hx (hne e' h')
    |_=>exact hk
 |.exit i,k+1,e,h,x,e',h',hok,hx,K,hk=>by
  have hx:some (Exit.exit i,e,h)=some (x,e',h'):=hx
  cases hx;exact jh.fin hty av hok hk
 |.ret,k+1,e,h,x,e',h',hok,hx,K,hk=>by
  have hx:some (Exit.ret,e,h)=some (x,e',h'):=hx
  cases hx;exact jh.fin hty av hok hk
 |.rangeFunc ..,k+1,_,_,_,_,_,_,hx,_,_=>by cases hx
 |.scope _,k+1,_,_,_,_,_,_,hx,_,_=>by cases hx
 |.label _,k+1,_,_,_,_,_,_,hx,_,_=>by cases hx
 |.goto _,k+1,_,_,_,_,_,_,hx,_,_=>by cases hx
 |.refuse _,k+1,_,_,_,_,_,_,hx,_,_=>by cases hx
end
mutual
def AV.names:AV->List Nat
 |.agg cs=>AV.sV cs
 |.cI cs=>AV.sV cs
 |.fn _ a b=>AV.sV a++AV.sV b
 |.ptr l _=>[l]
 |.ar l=>[l]
 |.ap l _=>[l]
 |_=>[]
def AV.sV:List AV->List Nat
 | []=>[]
 |v::r=>AV.names v++AV.sV r
end
def bu.names:bu->List Nat
 |.cells cs=>AV.sV cs
 |_=>[]
def IA:Heap->List Nat
 | []=>[]
 |(l,.bJ _ _)::r=>l::IA r
 |_::r=>IA r
noncomputable def reach (h:Heap) (k:Nat):List Nat->List Nat->List Nat:=
 @Nat.rec (fun _=>List Nat->List Nat->List Nat) (fun _ R=>R) (fun _ ih l R=>match l with
  | []=>R
  |x::r=>match aW R x with
   |true=>ih r R
   |false=>match aF h x with
    |some ob=>ih (ob.names++r) (R++[x])
    |none=>ih r R) k
def HH (h:Heap):Nat->Option Heap
 |0=>some []
 |k+1=>match aF h (bP+k),HH h k with
  |some ob,some r=>some ((bP+k,ob)::r)
  |_,_=>none
def HC (f:Nat):List (Nat×Func×Code)->Option (Func×Code)
 | []=>none
 |(k,x)::r=>match Nat.beq k f with|true=>some x|false=>HC f r
def PU:Exit->Bool
 |.normal=>true
 |.ret=>true
 |_=>false
section
variable (ty:Nat->Option TI) (fns:List (Nat×Func×Code)) (ext:Nat->List AV->Heap->Option (List Nat×Heap×AV))
noncomputable def Nv (kl:Nat) (call:Nat->List AV->Heap->Option (List Nat×Heap×AV)) (f:Nat) (args:List AV) (hs:Heap):Option (AV×Heap):=
 match HC f fns with
 |none=>none
 |some (fn,c)=>match Nat.ble args.length fn.ntmps with
  |false=>none
  |true=>match rO ty call kl c (jz 0 args) hs with
   |none=>none
   |some (x,e,h1)=>match PU x with
    |false=>none
    |true=>match mD ty fn.results.toList fn.resultTypes.toList e h1 with
     |none=>none
     |some v=>match HH h1 hs.length with
      |none=>none
      |some h'=>match v.within (aW (aO h'))&&lR (aW (aO h')) h'&&fD hs h' with
       |true=>some (v,h')
       |false=>none
noncomputable def J0 (kl:Nat) (call:Nat->List AV->Heap->Option (List Nat×Heap×AV)) (f:Nat) (args:List AV) (h:Heap):Option (List Nat×Heap×AV):=
 match ext f args h with
 |some (rd,hw,r)=>fV r fun r=>some (rd,hw,r)
 |none=>Qu (reach h 1000 (IA h++AV.sV args) []) fun R=>match AV.dH (aW R) args&&nodupB R with
  |false=>none
  |true=>match pN h (gj R 0) (aW R) R 0 with
   |none=>none
   |some hs=>NY (AV.p9 (gj R 0) args) fun az=>fH hs fun hs=>match Nv ty fns kl call f az hs with
    |none=>none
    |some (v,h')=>match nodupB (aO h')&&pG h 500 R.length (aO h')&&lq (aO h') R.length with
     |true=>fV (v.xA (eg R 500)) fun v=>fH (dW R 500 h') fun h'=>some (R,h',v)
     |false=>none
noncomputable def PE (kl k:Nat):Nat->List AV->Heap->Option (List Nat×Heap×AV):=
 @Nat.rec (fun _=>Nat->List AV->Heap->Option (List Nat×Heap×AV)) (fun _ _ _=>none) (fun _ ih=>J0 ty fns ext kl ih) k
end
theorem Ka.refl:∀cs:List AV,Ka cs cs
 | []=>trivial
 |_::r=>⟨.inl rfl,Ka.refl r⟩
theorem wS.refl (o:bu):wS o o:=by
 cases o with
 |cells cs=>exact Ka.refl cs
 |arr xs=>rfl
 |bJ b vs=>exact⟨rfl,rfl⟩
 |store=>exact⟨rfl,rfl,rfl,rfl,rfl,rfl⟩
theorem DL (h:Heap):∀(k:Nat) {h':Heap},HH h k=some h'->nc h h'
 |0,h',hx=>by cases hx;trivial
 |k+1,h',hx=>by
  rw[HH]at hx;split at hx
  ·rename_i ob r h1 h2
   cases hx;exact⟨by rw[h1];exact wS.refl ob,DL h k h2⟩
  ·cases hx
structure MY (P:Program) (x:Nat×Func×Code):Prop where
 get:P.funcs[x.1]?=some x.2.1
 body:x.2.1.body=some x.2.2
 name:(x.2.1.name== "runtime.NumGoroutine")=false
 ok:bE x.2.1.ntmps x.2.2=true
section
variable {P:Program} {ty:Nat->Option TI} {fns:List (Nat×Func×Code)} {ext:Nat->List AV->Heap->Option (List Nat×Heap×AV)}
theorem AS {f:Nat}:∀{l:List (Nat×Func×Code)} {x:Func×Code},HC f l=some x->(f,x)∈l
 |(k,y)::r,x,hx=>by
  rw[HC]at hx;split at hx
  ·rename_i hb;cases hx;rw[<-Nat.eq_of_beq_eq_true hb];exact List.mem_cons_self ..
  ·exact List.mem_cons_of_mem _ (AS hx)
theorem Hx (hty:bB P ty) (av:P.follows .mixedOrders=true) (hf:∀x∈fns,MY P x) {kl:Nat} {call:Nat->List AV->Heap->Option (List Nat×Heap×AV)} (hc:∀g l H rd hw r,call g l H=some (rd,hw,r)->∀K:List Nat->Heap->AV->Prop,K rd hw r->cU P g l H K) {f:Nat} {args:List AV} {hs h':Heap} {r:AV}
 (hx:Nv ty fns kl call f args hs=some (r,h')):au P f args hs r h':=by
 unfold Nv at hx;split at hx
 ·cases hx
 ·rename_i fn c hl
  have hF:=hf _ (AS hl);split at hx
  ·cases hx
  ·rename_i hble
   split at hx
   ·cases hx
   ·rename_i x e h1 hcode
    split at hx
    ·cases hx
    ·rename_i hend
     split at hx
     ·cases hx
     ·rename_i v hv
      split at hx
      ·cases hx
      ·rename_i h2 hkeep
       split at hx
       ·rename_i c1
        cases hx;refine au.qG hty hF.get hF.body hF.name (Nat.le_of_ble_eq_true hble) c1 ?_;refine jo hty av hc c kl _ _ hF.ok hcode _ ?_
        have fin:(match mD ty fn.results.toList fn.resultTypes.toList e h1 with|some v1=>xX v1 r/\nc h1 h'|none=>False):=by
         rw[hv];exact⟨.inl rfl,DL h1 _ hkeep⟩
        cases x with
        |normal=>exact fin
        |ret=>exact fin
        |_=>cases hend
       ·cases hx
theorem LD (hty:bB P ty) (av:P.follows .mixedOrders=true) (hf:∀x∈fns,MY P x) (he:∀f args h rd hw r,ext f args h=some (rd,hw,r)->∀K:List Nat->Heap->AV->Prop,K rd hw r->cU P f args h K) (kl:Nat) {call:Nat->List AV->Heap->Option (List Nat×Heap×AV)} (hc:∀g l H rd hw r,call g l H=some (rd,hw,r)->∀K:List Nat->Heap->AV->Prop,K rd hw r->cU P g l H K):
 ∀g l H rd hw r,J0 ty fns ext kl call g l H=some (rd,hw,r)->∀K:List Nat->Heap->AV->Prop,K rd hw r->cU P g l H K:=by
 intro f args h rd hw r hx K hk;unfold J0 at hx;split at hx
 ·rename_i hr
  rw[Ln]at hx;cases hx;exact he _ _ _ _ _ _ hr K hk
 ·simp only[GY]at hx
  split at hx
  ·cases hx
  ·rename_i hR
   split at hx
   ·cases hx
   ·rename_i hs hsub
    simp only[B0,NM,Ln]at hx;split at hx
    ·cases hx
    ·rename_i v h' hm
     split at hx
     ·rename_i c2
      cases hx;exact .mem _ 500 hs v h' hR hsub (Hx hty av hf hc hm) c2 hk
     ·cases hx
theorem G9 (hty:bB P ty) (av:P.follows .mixedOrders=true) (hf:∀x∈fns,MY P x) (he:∀f args h rd hw r,ext f args h=some (rd,hw,r)->∀K:List Nat->Heap->AV->Prop,K rd hw r->cU P f args h K) (kl:Nat):∀(k:Nat),∀g l H rd hw r,PE ty fns ext kl k g l H=some (rd,hw,r)->∀K:List Nat->Heap->AV->Prop,K rd hw r->cU P g l H K
 |0=>fun _ _ _ _ _ _ hx=>by cases hx
 |k+1=>LD hty av hf he kl (G9 hty av hf he kl k)
end
end Go.AM
end
section
open Go Go.AM Go.Proofs
namespace XE
noncomputable def dJ (f:Nat) (F:Func):Nat×Func×Code:=(f,F,F.body.getD .skip)
noncomputable def fns:List (Nat×Func×Code):=[dJ 41 Tryz.f41,dJ 43 Tryz.f43,dJ 44 Tryz.f44,dJ 45 Tryz.f45,dJ 55 Tryz.f55,dJ 56 Tryz.f56,dJ 57 Tryz.f57,dJ 58 Tryz.f58,dJ 59 Tryz.f59,dJ 60 Tryz.f60,dJ 61 Tryz.f61,dJ 62 Tryz.f62,dJ 63 Tryz.f63,dJ 64 Tryz.f64,dJ 65 Tryz.f65,dJ 66 Tryz.f66,dJ 67 Tryz.f67,dJ 68 Tryz.f68,dJ 69 Tryz.f69,dJ 70 Tryz.f70,dJ 71 Tryz.f71,dJ 72 Tryz.f72,dJ 73 Tryz.f73,dJ 74 Tryz.f74,dJ 75 Tryz.f75,dJ 82 Tryz.f82,dJ 83 Tryz.f83,dJ 85 Tryz.f85,dJ 86 Tryz.f86,dJ 87 Tryz.f87,dJ 88 Tryz.f88,dJ 89 Tryz.f89,dJ 90 Tryz.f90,dJ 91 Tryz.f91,dJ 92 Tryz.f92,dJ 94 Tryz.f94,dJ 95 Tryz.f95,dJ 96 Tryz.f96,dJ 97 Tryz.f97,dJ 98 Tryz.f98,dJ 99 Tryz.f99,dJ 100 Tryz.f100,dJ 101 Tryz.f101,dJ 102 Tryz.f102,dJ 103 Tryz.f103,dJ 104 Tryz.f104,dJ 105 Tryz.f105,dJ 106 Tryz.f106,dJ 107 Tryz.f107,dJ 108 Tryz.f108,dJ 109 Tryz.f109,dJ 110 Tryz.f110,dJ 111 Tryz.f111,dJ 112 Tryz.f112,dJ 113 Tryz.f113,dJ 114 Tryz.f114,dJ 115 Tryz.f115,dJ 116 Tryz.f116,dJ 121 Tryz.f121,dJ 124 Tryz.f124,dJ 126 Tryz.f126,dJ 127 Tryz.f127,dJ 130 Tryz.f130,dJ 131 Tryz.f131,dJ 132 Tryz.f132,dJ 133 Tryz.f133,dJ 134 Tryz.f134,dJ 135 Tryz.f135,dJ 136 Tryz.f136,dJ 137 Tryz.f137,dJ 138 Tryz.f138,dJ 139 Tryz.f139,dJ 140 Tryz.f140,dJ 141 Tryz.f141,dJ 142 Tryz.f142,dJ 143 Tryz.f143,dJ 144 Tryz.f144,dJ 151 Tryz.f151,dJ 157 Tryz.f157,dJ 158 Tryz.f158,dJ 159 Tryz.f159,dJ 160 Tryz.f160,dJ 161 Tryz.f161,dJ 162 Tryz.f162,dJ 163 Tryz.f163,dJ 164 Tryz.f164,dJ 165 Tryz.f165,dJ 166 Tryz.f166,dJ 167 Tryz.f167,dJ 168 Tryz.f168,dJ 169 Tryz.f169,dJ 170 Tryz.f170,dJ 171 Tryz.f171,dJ 172 Tryz.f172,dJ 182 Tryz.f182,dJ 183 Tryz.f183,dJ 184 Tryz.f184,dJ 185 Tryz.f185,dJ 186 Tryz.f186,dJ 187 Tryz.f187,dJ 188 Tryz.f188,dJ 189 Tryz.f189,dJ 192 Tryz.f192,dJ 195 Tryz.f195,dJ 201 Tryz.f201]
def PX:List Value->Bool
 | [.nilIface]=>true
 | [.iface _ _]=>true
 |_=>false
noncomputable def ext (f:Nat) (a:List AV) (h:Heap):Option (List Nat×Heap×AV):=match Nat.beq f 123 with
 |true=>match a with
  | []=>some ([],[],.p (.sl 1 (TK.sK.map TK.bF)))
  |_=>none
 |false=>match Nat.beq f 125 with
  |true=>match a with
   | [.p (.s ⟨⟨l⟩⟩),.p (.s ⟨⟨[c]⟩⟩)]=>some ([],[],.p (.b (decide (Lib.indexByte l c>=0))))
   |_=>none
  |false=>match Nat.beq f 84 with
   |true=>match a with
    | [.p (.s ⟨⟨l⟩⟩)]=>some ([],[],.p (.b (TK.N5 l)))
    |_=>none
   |false=>match Nat.beq f 150 with
    |true=>match a with
     | [.p (.s ⟨⟨l⟩⟩),.p (.s ⟨⟨[c]⟩⟩)]=>match Nat.beq c.toNat 32&&Nat.ble l.length 1000 with
       |true=>some ([],[],.p (.sl 1 ((TK.fC 32 l).map TK.bF)))
       |false=>none
     |_=>none
    |false=>match Nat.beq f 93 with
     |true=>match IA h,a with
      |l::_,[.p (.s ⟨⟨[c]⟩⟩),.p (.i .i64 10),.p (.i .i64 64)]=>match aF h l with
       |some (.bJ 2 tab)=>match PX tab&&PA.Rp (Lib.parseIntB 64 [c]) with
        |true=>some ([l],[(l,.bJ 2 tab)],.cI [.p (.i .i64 (PA.Lt ⟨⟨[c]⟩⟩).1),.wM (PA.Lt ⟨⟨[c]⟩⟩).2])
        |false=>none
       |_=>none
      |_,_=>none
     |false=>none
noncomputable def mem (f:Nat) (args:List AV) (h:Heap):=Nv (iX Tryz.prog) fns 400 (PE (iX Tryz.prog) fns ext 400 40) f args h
theorem Kd:∀x∈fns,MY Tryz.prog x:=by
 unfold fns
 repeat' refine List.forall_mem_cons.2 ⟨⟨by kernel_rfl,by rfl,by kernel_rfl,by kernel_rfl⟩,?_⟩
 exact List.forall_mem_nil _
end XE
end
