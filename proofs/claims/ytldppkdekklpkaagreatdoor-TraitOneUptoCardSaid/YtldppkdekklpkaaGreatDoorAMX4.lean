/- Part of a machine over plain values. No conditions. -/
import Derived.Test.YtldppkdekklpkaaGreatDoorAMX3
import Derived.Test.YtldppkdekklpkaaGreatDoorAMPan
set_option linter.all false
section
namespace Go.AM
section
variable {α β:Type}
noncomputable def fN (n:Nat) (K:Nat→α):α:=@Nat.rec (fun _=>(Nat→α)→α) (fun K=>K 0) (fun m _ K=>K (Nat.succ m)) n K
noncomputable def fI (i:Int) (K:Int→α):α:=match i with
 |.ofNat n=>fN n fun n=>K (.ofNat n)
 |.negSucc n=>fN n fun n=>K (.negSucc n)
noncomputable def fB (b:Bool) (K:Bool→α):α:=match b with
 |true=>K true
 |false=>K false
noncomputable def fL (l:List β) (K:List β→α):α:=@List.rec β (fun _=>(List β→α)→α) (fun K=>K []) (fun x _ ih K=>ih fun r=>K (x::r)) l K
noncomputable def fP (v:PV) (K:PV→α):α:=match v with
 |.i k n=>fI n fun n=>K (.i k n)
 |.b b=>fB b fun b=>K (.b b)
 |.s ⟨⟨l⟩⟩=>fL l fun l=>K (.s ⟨⟨l⟩⟩)
 |.sl z xs=>fN z fun z=>fL xs fun xs=>K (.sl z xs)
 |.agg xs=>fL xs fun xs=>K (.agg xs)
 |.adr s k=>fN k fun k=>K (.adr s k)
 |.amp s k=>fN k fun k=>K (.amp s k)
 |.ads s k n=>fN k fun k=>fN n fun n=>K (.ads s k n)
 |.pa T one sz s k m c=>fN k fun k=>fN m fun m=>fN c fun c=>K (.pa T one sz s k m c)
 |v=>K v
noncomputable def fV0 (v:AV) (K:AV→α):α:=match v with
 |.p x=>fP x fun x=>K (.p x)
 |.so z xs=>fN z fun z=>fL xs fun xs=>K (.so z xs)
 |.ptr l off=>fN l fun l=>fN off fun off=>K (.ptr l off)
 |v=>K v
noncomputable def fLV (l:List AV) (K:List AV→α):α:=@List.rec AV (fun _=>(List AV→α)→α) (fun K=>K []) (fun x _ ih K=>fV0 x fun x=>ih fun r=>K (x::r)) l K
noncomputable def fV (v:AV) (K:AV→α):α:=match v with
 |.agg cs=>fLV cs fun cs=>K (.agg cs)
 |.tup cs=>fLV cs fun cs=>K (.tup cs)
 |.fn f a b=>fLV a fun a=>fLV b fun b=>K (.fn f a b)
 |v=>fV0 v K
noncomputable def fE (l:Env) (K:Env→α):α:=@List.rec (Nat×AV) (fun _=>(Env→α)→α) (fun K=>K []) (fun x _ ih K=>match x with
 |(d,v)=>fV v fun v=>ih fun r=>K ((d,v)::r)) l K
noncomputable def fO (o:AObj) (K:AObj→α):α:=match o with
 |.cells cs=>fLV cs fun cs=>K (.cells cs)
 |o=>K o
noncomputable def fH (l:Heap) (K:Heap→α):α:=@List.rec (Nat×AObj) (fun _=>(Heap→α)→α) (fun K=>K []) (fun x _ ih K=>match x with
 |(d,v)=>fN d fun d=>fO v fun v=>ih fun r=>K ((d,v)::r)) l K
noncomputable def fNs (l:List Nat) (K:List Nat→α):α:=@List.rec Nat (fun _=>(List Nat→α)→α) (fun K=>K []) (fun x _ ih K=>fN x fun x=>ih fun r=>K (x::r)) l K
noncomputable def fM (l:List (Nat×List PV)) (K:List (Nat×List PV)→α):α:=@List.rec (Nat×List PV) (fun _=>(List (Nat×List PV)→α)→α) (fun K=>K []) (fun x _ ih K=>match x with
 |(d,v)=>fN d fun d=>fL v fun v=>ih fun r=>K ((d,v)::r)) l K
noncomputable def fEs (l:List (PV×PV)) (K:List (PV×PV)→α):α:=@List.rec (PV×PV) (fun _=>(List (PV×PV)→α)→α) (fun K=>K []) (fun x _ ih K=>match x with
 |(a,b)=>fP a fun a=>fP b fun b=>ih fun r=>K ((a,b)::r)) l K
noncomputable def fS (o:AObj) (K:AObj→α):α:=match o with
 |.store T one sp nx sz M=>fN nx fun nx=>fM M fun M=>K (.store T one sp nx sz M)
 |.map kd es=>fEs es fun es=>K (.map kd es)
 |o=>K o
noncomputable def fHS (l:Heap) (K:Heap→α):α:=@List.rec (Nat×AObj) (fun _=>(Heap→α)→α) (fun K=>K []) (fun x _ ih K=>match x with
 |(d,v)=>fS v fun v=>ih fun r=>K ((d,v)::r)) l K
noncomputable def fF (b:Bool) (f:Eff) (K:Eff→α):α:=match b with
 |true=>K f
 |false=>match f with
  |⟨rd,ew,hw⟩=>fE ew fun ew=>fHS hw fun hw=>K ⟨rd,ew,hw⟩
theorem fN_eq (n:Nat) (K:Nat→α):fN n K=K n:=by cases n<;>rfl
theorem fI_eq (n:Int) (K:Int→α):fI n K=K n:=by cases n<;>exact fN_eq _ _
theorem fB_eq (n:Bool) (K:Bool→α):fB n K=K n:=by cases n<;>rfl
theorem fL_eq:∀(l:List β) (K:List β→α),fL l K=K l
 | [],_=>rfl
 |x::r,K=>fL_eq r (fun r=>K (x::r))
theorem fP_eq (v:PV) (K:PV→α):fP v K=K v:=by
 unfold fP;split<;>simp only[fN_eq,fI_eq,fB_eq,fL_eq]
theorem fV0_eq (v:AV) (K:AV→α):fV0 v K=K v:=by
 unfold fV0;split<;>simp only[fN_eq,fP_eq,fL_eq]
theorem fLV_eq:∀(l:List AV) (K:List AV→α),fLV l K=K l
 | [],_=>rfl
 |x::r,K=>by
  show fV0 x (fun x=>fLV r fun r=>K (x::r))=_;rw[fV0_eq,fLV_eq r]
theorem fV_eq (v:AV) (K:AV→α):fV v K=K v:=by
 unfold fV;split<;>simp only[fLV_eq,fV0_eq]
theorem fE_eq:∀(l:Env) (K:Env→α),fE l K=K l
 | [],_=>rfl
 |(d,v)::r,K=>by
  show fV v (fun v=>fE r fun r=>K ((d,v)::r))=_;rw[fV_eq,fE_eq r]
theorem fO_eq (o:AObj) (K:AObj→α):fO o K=K o:=by
 unfold fO;split<;>simp only[fLV_eq]
theorem fH_eq:∀(l:Heap) (K:Heap→α),fH l K=K l
 | [],_=>rfl
 |(d,v)::r,K=>by
  show fN d (fun d=>fO v fun v=>fH r fun r=>K ((d,v)::r))=_;rw[fN_eq,fO_eq,fH_eq r]
theorem fNs_eq:∀(l:List Nat) (K:List Nat→α),fNs l K=K l
 | [],_=>rfl
 |x::r,K=>by
  show fN x (fun x=>fNs r fun r=>K (x::r))=_;rw[fN_eq,fNs_eq r]
theorem fM_eq:∀(l:List (Nat×List PV)) (K:List (Nat×List PV)→α),fM l K=K l
 | [],_=>rfl
 |(d,v)::r,K=>by
  show fN d (fun d=>fL v fun v=>fM r fun r=>K ((d,v)::r))=_;rw[fN_eq,fL_eq,fM_eq r]
theorem fEs_eq:∀(l:List (PV×PV)) (K:List (PV×PV)→α),fEs l K=K l
 | [],_=>rfl
 |(a,b)::r,K=>by
  show fP a (fun a=>fP b fun b=>fEs r fun r=>K ((a,b)::r))=_;rw[fP_eq,fP_eq,fEs_eq r]
theorem fS_eq (o:AObj) (K:AObj→α):fS o K=K o:=by
 unfold fS;split<;>simp only[fN_eq,fM_eq,fEs_eq]
theorem fHS_eq:∀(l:Heap) (K:Heap→α),fHS l K=K l
 | [],_=>rfl
 |(d,v)::r,K=>by
  show fS v (fun v=>fHS r fun r=>K ((d,v)::r))=_;rw[fS_eq,fHS_eq r]
theorem fF_eq (b:Bool) (f:Eff) (K:Eff→α):fF b f K=K f:=by
 unfold fF;split
 ·rfl
 ·simp only[fE_eq,fHS_eq]
end
end Go.AM
end
section
namespace Go.AM
def xStO (T:Nat) (one:Bool) (h:Heap):Option (Nat×Nat×Nat×Nat×List (Nat×List PV)):=match findSt T one h with
 |some l=>match hget h l with
  |some (.store T' o sp nx sz M)=>match Nat.beq T' T,beqB o one with|true,true=>some (l,sp,nx,sz,M)|_,_=>none
  |_=>none
 |none=>none
theorem xStO_ok {T:Nat} {one:Bool} {h:Heap} {l sp nx sz:Nat} {M:List (Nat×List PV)} {K:Nat→Nat→Nat→Nat→List (Nat×List PV)→Prop} (hx:xStO T one h=some (l,sp,nx,sz,M)) (hk:K l sp nx sz M):AStO T one h K:=by
 unfold xStO at hx;unfold AStO
 cases hf:findSt T one h with
 |none=>rw[hf]at hx;cases hx
 |some l0=>
  rw[hf]at hx;dsimp only at hx ⊢
  cases hg:hget h l0 with
  |none=>rw[hg]at hx;cases hx
  |some ob=>
   rw[hg]at hx
   cases ob with
   |store T' o sp' nx' sz' M'=>
    dsimp only at hx ⊢
    cases h3:Nat.beq T' T<;>cases h4:beqB o one<;>rw[h3,h4]at hx<;>first|(cases hx;done)|skip
    cases hx;exact hk
   |_=>cases hx
def unk1 (kd:KD) (x:PV):Option (PV×PV):=match kd with
 |.ks=>match x with
  |.agg [a,b]=>some (a,b)
  |_=>none
 |.kb=>match x with
  |.agg [a,b,.nsl]=>some (a,b)
  |_=>none
 |.ki i=>match x with
  |.agg [a,b,.i j n,.nsl]=>match decide (i=j),decide (n=0) with
   |true,true=>some (a,b)
   |_,_=>none
  |_=>none
theorem unk1_ok {kd:KD} {x:PV} {p:PV×PV} (h:unk1 kd x=some p):x=mkk kd p:=by
 unfold unk1 at h
 repeat' split at h
 all_goals first|(cases h;done)|(cases h;rfl)|skip
 rename_i h1 h2
 cases h;simp only[decide_eq_true_eq]at h1 h2;subst h1;subst h2;rfl
def unk (kd:KD):List PV→Option (List (PV×PV))
 | []=>some []
 |x::r=>match unk1 kd x with
  |some p=>match unk kd r with|some es=>some (p::es)|none=>none
  |none=>none
theorem unk_ok {kd:KD}:∀{xs:List PV} {es:List (PV×PV)},unk kd xs=some es→xs=es.map (mkk kd)
 | [],es,h=>by cases h;rfl
 |x::r,es,h=>by
  unfold unk at h;split at h
  ·rename_i p hp
   split at h
   ·rename_i es' he
    cases h;rw[unk1_ok hp,unk_ok he];rfl
   ·cases h
  ·cases h
section
variable (ty:Nat→Option TI)
def xdLoad (o:Oper) (h:Heap) (t:Nat) (a:AV):Option Eff:=match ty t with
 |some i=>match a with
  |.p (.bx cs)=>match isAggD i.desc with
   |true=>match getAt cs 0 i.size with
    |some l1=>xret o (.p (.agg l1))
    |none=>none
   |false=>match cs with
    |v::_=>xret o (.p v)
    | []=>none
  |a=>match dPtr t a with
   |some (T,one,sz0,s,k,m,c)=>match xStO T one h with
    |some (l,sp,_,sz,M)=>xneed (decide (s=sp∧sz≠0∧(m=0∨sz0=sz))) (match slk k M with
     |some xs=>match xs[m]? with
      |some v=>match isAggD i.desc with
       |true=>match getAt v.cells c i.size with
        |some l1=>xretR o l (.p (.agg l1))
        |none=>none
       |false=>match v.cells[c]? with
        |some y=>xretR o l (.p y)
        |none=>none
      |none=>none
     |none=>none)
    |none=>none
   |none=>none
 |none=>none
noncomputable def xdStore (e:Env) (h:Heap) (t:Nat) (a:AV) (y:Operand):Option Eff:=match ty t with
 |some i=>match dPtr t a,(ev e y).pureL i.csz with
  |some (T,one,sz0,s,k,m,c),some v=>match Nat.beq v.cells.length i.size,Nat.beq i.size 0 with
   |true,false=>match xStO T one h with
    |some (l,sp,nx,sz,M)=>xneed (decide (s=sp∧sz≠0∧(m=0∨sz0=sz))) (match slk k M with
     |some xs=>match xs[m]? with
      |some x=>match setEl x c v.cells with
       |some x'=>fP x' fun x'=>some ⟨[l],[],[(l,.store T one sp nx sz (sset k (xs.set m x') M))]⟩
       |none=>none
      |none=>none
     |none=>none)
    |none=>none
   |_,_=>none
  |_,_=>none
 |none=>none
def xdAlloc (o:Oper) (h:Heap) (t:Nat):Option Eff:=match ty t,o.dst with
 |some i,some d=>match isAggD i.desc,allPure (constAVs i.zero) i.csz with
  |true,some zs=>match xStO t true h with
   |some (l,sp,nx,sz,M)=>match Nat.beq sz i.size,Nat.beq sz 0 with
    |true,false=>some ⟨[l],[(d,.p (.adr sp nx))],[(l,.store t true sp (nx+1) sz ((nx,[.agg zs])::M))]⟩
    |_,_=>none
   |none=>none
  |_,_=>none
 |_,_=>none
def xdNil (o:Oper) (a:AV):Option Eff:=match a with
 |.p x=>match isDP (.p x) with|true=>xret o (.p x)|false=>none
 |_=>none
def xdField (o:Oper) (s f:Nat) (a:AV):Option Eff:=match fieldOf ty s f with
 |some fd=>match ty fd.type,ty s with
  |some j,some i=>match Nat.beq j.size 0,a with
   |false,.p (.bx cs)=>xret o (.vp (cs.drop fd.offset))
   |false,.p (.adr sp k)=>xret o (.p (.pa s true i.size sp k 0 fd.offset))
   |false,.p (.pa T one sz sp k m c)=>xret o (.p (.pa T one sz sp k m (c+fd.offset)))
   |_,_=>none
  |_,_=>none
 |none=>none
def xdIndex (o:Oper) (t:Nat) (x ix:AV):Option Eff:=match ty t with
 |some i=>match i.desc with
  |.slice el=>match ty el with
   |some j=>match x,ix with
    |.p (.ads s k m),.p (.i _ q)=>xneed (decide (0≤q∧q.toNat<m)) (xret o (.p (.pa el false j.size s k q.toNat 0)))
    |_,_=>none
   |none=>none
  |_=>none
 |none=>none
def xdLen (o:Oper) (t:Nat) (x:AV):Option Eff:=match isSliceT ty t,x with
 |true,.p (.ads _ _ m)=>xret o (.p (.i .i64 m))
 |true,.p .nsl=>xret o (.p (.i .i64 0))
 |_,_=>none
def xdSlice (o:Oper) (e:Env) (t:Nat) (x:AV) (u:Operand):Option Eff:=match ty t with
 |some i=>match i.desc with
  |.slice el=>match ty el,x,ev e u with
   |some _,.p (.ads s k m),.p (.i _ q)=>xneed (decide (0≤q∧q≤m)) (xret o (.p (.ads s k q.toNat)))
   |some _,.p .nsl,.p (.i _ q)=>xneed (decide (q=0)) (xret o (.p .nsl))
   |_,_,_=>none
  |_=>none
 |none=>none
def xdAppend (o:Oper) (h:Heap) (t t2:Nat) (x y:AV):Option Eff:=match ty t,isSliceT ty t2 with
 |some i,true=>match i.desc with
  |.slice el=>match ty el with
   |some j=>match Nat.beq (j.size*j.bytes) 0,aYs j.size y,o.dst with
    |false,some ys,some d=>match xStO el false h with
     |some (l,sp,nx,sz,M)=>match Nat.beq sz j.size with
      |true=>match x with
       |.p (.ads s k m)=>xneed (decide (s=sp)) (match slk k M with
        |some xs=>xneed (decide (m≤xs.length∧(m+ys.length)*j.bytes≤140737488355328)) (some ⟨[l],[(d,.p (.ads sp nx (m+ys.length)))],[(l,.store el false sp (nx+1) sz ((nx,xs.take m++ys)::sdel k M))]⟩)
        |none=>none)
       |.p .nsl=>xneed (decide (0<ys.length∧ys.length*j.bytes≤140737488355328)) (some ⟨[l],[(d,.p (.ads sp nx ys.length))],[(l,.store el false sp (nx+1) sz ((nx,ys)::M))]⟩)
       |.nilS=>xneed (decide (0<ys.length∧ys.length*j.bytes≤140737488355328)) (some ⟨[l],[(d,.p (.ads sp nx ys.length))],[(l,.store el false sp (nx+1) sz ((nx,ys)::M))]⟩)
       |_=>none
      |false=>none
     |none=>none
    |_,_,_=>none
   |none=>none
  |_=>none
 |_,_=>none
def xdBuild (o:Oper) (e:Env) (h:Heap) (t len:Nat) (parts:List (Nat×Operand)):Option Eff:=match ty t with
 |some i=>match i.desc with
  |.slice el=>match ty el with
   |some j=>match partsPure j.size j.csz e 0 parts,o.dst with
    |some xs,some d=>match Nat.beq xs.length len,Nat.ble (len*j.size) 16777216,Nat.beq j.size 0 with
     |true,true,false=>match xStO el false h with
      |some (l,sp,nx,sz,M)=>match Nat.beq sz j.size with
       |true=>some ⟨[l],[(d,.p (.ads sp nx len))],[(l,.store el false sp (nx+1) sz ((nx,xs)::M))]⟩
       |false=>none
      |none=>none
     |_,_,_=>none
    |_,_=>none
   |none=>none
  |_=>none
 |none=>none
def xdBin (o:Oper) (h:Heap) (op:BinOp) (t:Nat) (x y:AV):Option Eff:=match x,y with
 |.p (.ads _ _ _),.nilS=>match isSliceT ty t,op with
  |true,.eql=>xret o (.p (.b false))
  |true,.neq=>xret o (.p (.b true))
  |_,_=>none
 |.p .nsl,.nilS=>match isSliceT ty t,op with
  |true,.eql=>xret o (.p (.b true))
  |true,.neq=>xret o (.p (.b false))
  |_,_=>none
 |.p (.adr s k),.p (.adr s' k')=>match isPtrT ty t,ty t with
  |true,some i=>match i.desc with
   |.pointer T=>match ty T with
    |some j=>match Nat.beq j.size 0 with
     |false=>match xStO T true h with
      |some (l,sp,_,sz,M)=>xneed (decide (s=sp∧s'=sp∧sz≠0∧(slk k M).isSome=true∧(slk k' M).isSome=true)) (match op with
       |.eql=>xretR o l (.p (.b (Nat.beq k k')))
       |.neq=>xretR o l (.p (.b (!(Nat.beq k k'))))
       |_=>none)
      |none=>none
     |true=>none
    |none=>none
   |_=>none
  |_,_=>none
 |x,y=>match isPtrT ty t,ptrEq x y,op with
  |true,some b,.eql=>xret o (.p (.b b))
  |true,some b,.neq=>xret o (.p (.b (!b)))
  |_,_,_=>none
def xdMk (o:Oper) (T:Nat) (x:AV):Option Eff:=match ty T,x with
 |some i,.p y=>match i.desc with
  |.interface _=>none
  |_=>xret o (.p (.ifv T y))
 |_,_=>none
def xdIfc (o:Oper) (op:BinOp) (t:Nat) (x:AV):Option Eff:=match isIfaceT ty t,ifNil x,op with
 |true,some b,.eql=>xret o (.p (.b b))
 |true,some b,.neq=>xret o (.p (.b (!b)))
 |_,_,_=>none
def xdBox (o:Oper) (h:Heap) (t:Nat) (x:AV):Option Eff:=match ty t,o.dst with
 |some i,some d=>match x.pureL i.csz with
  |some (.agg zs)=>match xStO t true h with
   |some (l,sp,nx,sz,M)=>match Nat.beq zs.length sz,Nat.beq sz 0 with
    |true,false=>some ⟨[l],[(d,.p (.adr sp nx))],[(l,.store t true sp (nx+1) sz ((nx,[.agg zs])::M))]⟩
    |_,_=>none
   |none=>none
  |_=>none
 |_,_=>none
def xdMakeMap (o:Oper) (h:Heap) (t:Nat):Option Eff:=match ty t,o.dst with
 |some i,some d=>match i.desc with
  |.map kt _=>match ty kt with
   |some j=>match mapKey j.desc with
    |true=>match xStO t true h with
     |some (l,sp,nx,sz,M)=>match Nat.beq sz 0 with
      |true=>some ⟨[l],[(d,.p (.amp sp nx))],[(l,.store t true sp (nx+1) sz ((nx,[])::M))]⟩
      |false=>none
     |none=>none
    |false=>none
   |none=>none
  |_=>none
 |_,_=>none
def isAdr:PV→Bool
 |.adr _ _=>true
 |_=>false
def xdLookup (o:Oper) (h:Heap) (t:Nat) (m k:AV) (ok:Bool):Option Eff:=match ty t with
 |some i=>match i.desc with
  |.map kt et=>match ty kt,ty et with
   |some jk,some je=>match zeroPV je,m,k with
    |some z,.p (.amp s q),.p k=>match isAdr k,kdD jk.desc,kdOf k with
     |false,some kd,some kd'=>match KD.eq kd kd' with
      |true=>match xStO t true h with
       |some (l,sp,_,sz,M)=>xneed (decide (s=sp∧sz=0)) (match slk q M with
        |some xs=>match unk kd xs with
         |some es=>xretR o l (lookRes ok (mlook k z es).1 (mlook k z es).2)
         |none=>none
        |none=>none)
       |none=>none
      |false=>none
     |_,_,_=>none
    |_,_,_=>none
   |_,_=>none
  |_=>none
 |none=>none
def xdMapUpdate (h:Heap) (t:Nat) (m k v:AV):Option Eff:=match ty t with
 |some i=>match i.desc with
  |.map kt et=>match ty kt,ty et with
   |some jk,some je=>match m,k,v.pureL je.csz with
    |.p (.amp s q),.p k,some v=>match isAdr k,kdD jk.desc,kdOf k with
     |false,some kd,some kd'=>match KD.eq kd kd' with
      |true=>match xStO t true h with
       |some (l,sp,nx,sz,M)=>xneed (decide (s=sp∧sz=0)) (match slk q M with
        |some xs=>match unk kd xs with
         |some es=>some ⟨[l],[],[(l,.store t true sp nx sz (sset q ((mput k v es).map (mkk kd)) M))]⟩
         |none=>none
        |none=>none)
       |none=>none
      |false=>none
     |_,_,_=>none
    |_,_,_=>none
   |_,_=>none
  |_=>none
 |none=>none
noncomputable def xopD (o:Oper) (e:Env) (h:Heap):Option Eff:=match o.op with
 |.load t x=>xdLoad ty o h t (ev e x)
 |.store t x y=>xdStore ty e h t (ev e x) y
 |.alloc t=>xdAlloc ty o h t
 |.nilCheck x=>xdNil o (ev e x)
 |.fieldAddr s x f=>xdField ty o s f (ev e x)
 |.indexAddr t x ix=>xdIndex ty o t (ev e x) (ev e ix)
 |.slice t x none (some u) none=>xdSlice ty o e t (ev e x) u
 |.call { callee:=.builtin .len,args:=⟨[x]⟩,argTypes:=⟨t::_⟩ }=>xdLen ty o t (ev e x)
 |.call { callee:=.builtin .append,args:=⟨[x,y]⟩,argTypes:=⟨[t,t2]⟩ }=>xdAppend ty o h t t2 (ev e x) (ev e y)
 |.buildSlice t len ⟨parts⟩=>xdBuild ty o e h t len parts
 |.makeInterface t x=>xdMk ty o t (ev e x)
 |.makeMap t none=>xdMakeMap ty o h t
 |.lookup t m k ok=>xdLookup ty o h t (ev e m) (ev e k) ok
 |.mapUpdate t m k v=>xdMapUpdate ty h t (ev e m) (ev e k) (ev e v)
 |.insert t m k v=>xdMapUpdate ty h t (ev e m) (ev e k) (ev e v)
 |.box t x=>xdBox ty o h t (ev e x)
 |.binOp op t x (.const .nilIface) _=>xdIfc ty o op t (ev e x)
 |.binOp op t x y _=>xdBin ty o h op t (ev e x) (ev e y)
 |_=>none
end
section
variable {ty:Nat→Option TI} {f:Eff} {K:AK} {o:Oper} {e:Env} {h:Heap}
theorem xdLoad_ok {t:Nat} {a:AV} (hx:xdLoad ty o h t a=some f) (hk:K f):dLoad ty o h t a K:=by
 unfold xdLoad at hx;unfold dLoad;split at hx
 ·rename_i i hi
  split at hx
  ·rename_i cs
   split at hx
   ·rename_i hg
    split at hx
    ·rename_i l1 h1;simp only[hi,hg,h1];exact xret_ok hx hk
    ·cases hx
   ·rename_i hg
    split at hx
    ·simp only[hi,hg];exact xret_ok hx hk
    ·cases hx
  ·rename_i hb
   split at hx
   ·rename_i T one sz0 s k m c hp
    split at hx
    ·rename_i l sp nx sz M hs
     obtain⟨hn,hx⟩:=xneed_ok hx;split at hx
     ·rename_i xs hxs
      split at hx
      ·rename_i v hv
       have key:AStO T one h fun l sp _ sz M=>ANeed (s=sp∧sz≠0∧(m=0∨sz0=sz)) (ASt M k fun xs=>AIdx xs m fun v=>match isAggD i.desc with
        |true=>match getAt v.cells c i.size with
         |some l1=>retR o l (.p (.agg l1)) K
         |none=>AStuck "load"
        |false=>match v.cells[c]? with
         |some y=>retR o l (.p y) K
         |none=>AStuck "load"):=by
        refine xStO_ok hs ⟨hn,xs,hxs,aidxn hv ?_⟩
        cases hg:isAggD i.desc with
        |true=>
         rw[hg]at hx;dsimp only at hx ⊢;split at hx
         ·exact xretR_ok hx hk
         ·cases hx
        |false=>
         rw[hg]at hx;dsimp only at hx ⊢;split at hx
         ·exact xretR_ok hx hk
         ·cases hx
       rw[hi]
       cases a with
       |p x=>cases x<;>first|(cases hp;done)|(dsimp only;rw[hp];exact key)
       |_=>cases hp
      ·cases hx
     ·cases hx
    ·cases hx
   ·cases hx
 ·cases hx
theorem xdStore_ok {t:Nat} {a:AV} {y:Operand} (hx:xdStore ty e h t a y=some f) (hk:K f):dStore ty e h t a y K:=by
 unfold xdStore at hx;unfold dStore
 repeat' split at hx
 all_goals first|(cases hx;done)|(obtain⟨_,hx⟩:=xneed_ok hx;cases hx;done)|skip
 simp only[*];obtain⟨hn,hx⟩:=xneed_ok hx;rw[fP_eq]at hx;cases hx;refine xStO_ok (by assumption) ⟨hn,_,by assumption,aidxn (by assumption) ?_⟩;simp only[*]
theorem xdAlloc_ok {t:Nat} (hx:xdAlloc ty o h t=some f) (hk:K f):dAlloc ty o h t K:=by
 unfold xdAlloc at hx;unfold dAlloc
 repeat' split at hx
 all_goals first|(cases hx;done)|skip
 rename_i _ _ i d hi hd _ _ zs h1 h2 _ l sp nx sz M hs _ _ h3 h4
 cases hx;simp only[hi,hd,h1,h2];refine xStO_ok hs ?_;simp only[h3,h4];exact hk
theorem xdNil_ok {a:AV} (hx:xdNil o a=some f) (hk:K f):dNil o a K:=by
 unfold xdNil at hx;unfold dNil;split at hx
 ·split at hx
  ·rename_i h1;simp only[h1];exact xret_ok hx hk
  ·cases hx
 ·cases hx
theorem xdField_ok {s n:Nat} {a:AV} (hx:xdField ty o s n a=some f) (hk:K f):dField ty o s n a K:=by
 unfold xdField at hx;unfold dField
 repeat' split at hx
 all_goals first|(cases hx;done)|(simp only[*];exact xret_ok hx hk)
theorem xdIndex_ok {t:Nat} {x ix:AV} (hx:xdIndex ty o t x ix=some f) (hk:K f):dIndex ty o t x ix K:=by
 unfold xdIndex at hx;unfold dIndex
 repeat' split at hx
 all_goals first|(cases hx;done)|skip
 simp only[*];obtain⟨hn,hx⟩:=xneed_ok hx;exact⟨hn,xret_ok hx hk⟩
theorem xdLen_ok {t:Nat} {x:AV} (hx:xdLen ty o t x=some f) (hk:K f):dLen ty o t x K:=by
 unfold xdLen at hx;unfold dLen
 repeat' split at hx
 all_goals first|(cases hx;done)|(simp only[*];exact xret_ok hx hk)
theorem xdSlice_ok {t:Nat} {x:AV} {u:Operand} (hx:xdSlice ty o e t x u=some f) (hk:K f):dSlice ty o e t x u K:=by
 unfold xdSlice at hx;unfold dSlice
 repeat' split at hx
 all_goals first|(cases hx;done)|skip
 ·simp only[*]
  obtain⟨hn,hx⟩:=xneed_ok hx;exact⟨hn,xret_ok hx hk⟩
 ·simp (config:={ failIfUnchanged:=false }) only[*]
  obtain⟨hn,hx⟩:=xneed_ok hx;exact⟨hn,xret_ok hx hk⟩
theorem xdBuild_ok {t len:Nat} {parts:List (Nat×Operand)} (hx:xdBuild ty o e h t len parts=some f) (hk:K f):dBuild ty o e h t len parts K:=by
 unfold xdBuild at hx;unfold dBuild
 repeat' split at hx
 all_goals first|(cases hx;done)|skip
 rename_i hs _ h3
 cases hx;simp only[*];refine xStO_ok hs ?_;simp only[h3];exact hk
theorem xdMk_ok {T:Nat} {x:AV} (hx:xdMk ty o T x=some f) (hk:K f):dMk ty o T x K:=by
 unfold xdMk at hx;unfold dMk;split at hx
 ·rename_i i y hi
  rw[hi];dsimp only;split at hx
  ·cases hx
  ·rename_i hn
   split
   ·rename_i q hq;exact(hn _ hq).elim
   ·exact xret_ok hx hk
 ·cases hx
theorem xdIfc_ok {op:BinOp} {t:Nat} {x:AV} (hx:xdIfc ty o op t x=some f) (hk:K f):dIfc ty o op t x K:=by
 unfold xdIfc at hx;unfold dIfc
 repeat' split at hx
 all_goals first|(cases hx;done)|(simp only[*];exact xret_ok hx hk)
theorem xdBox_ok {t:Nat} {x:AV} (hx:xdBox ty o h t x=some f) (hk:K f):dBox ty o h t x K:=by
 unfold xdBox at hx;unfold dBox
 repeat' split at hx
 all_goals first|(cases hx;done)|skip
 rename_i hs _ _ h3 h4
 cases hx;simp only[*];refine xStO_ok hs ?_;simp only[h3,h4];exact hk
theorem xdMakeMap_ok {t:Nat} (hx:xdMakeMap ty o h t=some f) (hk:K f):dMakeMap ty o h t K:=by
 unfold xdMakeMap at hx;unfold dMakeMap
 repeat' split at hx
 all_goals first|(cases hx;done)|skip
 rename_i hs _ h3
 cases hx;simp only[*];refine xStO_ok hs ?_;simp only[h3];exact hk
theorem xdAppend_ok {t t2:Nat} {x y:AV} (hx:xdAppend ty o h t t2 x y=some f) (hk:K f):dAppend ty o e h t t2 x y K:=by
 unfold xdAppend at hx;unfold dAppend;split at hx
 ·rename_i i hi h2
  split at hx
  ·rename_i el hd
   split at hx
   ·rename_i j hj
    split at hx
    ·rename_i ys d h3 h4 h5
     split at hx
     ·rename_i l sp nx sz M hs
      split at hx
      ·rename_i h6
       simp only[hi,h2,hd,hj,h3,h4,h5];split at hx
       ·rename_i s k m
        obtain⟨hn,hx⟩:=xneed_ok hx;split at hx
        ·rename_i xs hxs
         obtain⟨hn2,hx⟩:=xneed_ok hx;cases hx;refine xStO_ok hs ?_;simp only[h6];exact⟨hn,xs,hxs,hn2,hk⟩
        ·cases hx
       ·obtain⟨hn,hx⟩:=xneed_ok hx
        cases hx;refine xStO_ok hs ?_;simp only[h6];exact⟨hn,hk⟩
       ·obtain⟨hn,hx⟩:=xneed_ok hx
        cases hx;refine xStO_ok hs ?_;simp only[h6];exact⟨hn,hk⟩
       ·cases hx
      ·cases hx
     ·cases hx
    ·cases hx
   ·cases hx
  ·cases hx
 ·cases hx
theorem xdBin_ok {op:BinOp} {t:Nat} {x y:AV} (hx:xdBin ty o h op t x y=some f) (hk:K f):dBin ty o h op t x y K:=by
 unfold xdBin at hx;unfold dBin;split at hx
 ·split at hx
  ·rename_i h1;simp only[h1];exact xret_ok hx hk
  ·rename_i h1;simp only[h1];exact xret_ok hx hk
  ·cases hx
 ·split at hx
  ·rename_i h1;simp only[h1];exact xret_ok hx hk
  ·rename_i h1;simp only[h1];exact xret_ok hx hk
  ·cases hx
 ·split at hx
  ·rename_i i h1 hi
   split at hx
   ·rename_i T hd
    split at hx
    ·rename_i j hj
     split at hx
     ·rename_i h3
      split at hx
      ·rename_i l sp nx sz M hs
       obtain⟨hn,hx⟩:=xneed_ok hx;simp only[h1,hi,hd,hj,h3];refine xStO_ok hs ⟨hn,?_⟩;split at hx
       ·exact xretR_ok hx hk
       ·exact xretR_ok hx hk
       ·cases hx
      ·cases hx
     ·cases hx
    ·cases hx
   ·cases hx
  ·cases hx
 ·rename_i n1 n2 n3
  have hx2:∃b,isPtrT ty t=true∧ptrEq x y=some b∧((op=.eql∧xret o (.p (.b b))=some f)∨(op=.neq∧xret o (.p (.b (!b)))=some f)):=by
   split at hx
   ·rename_i b h1 h2;exact⟨b,h1,h2,.inl ⟨rfl,hx⟩⟩
   ·rename_i b h1 h2;exact⟨b,h1,h2,.inr ⟨rfl,hx⟩⟩
   ·cases hx
  obtain⟨b,h1,h2,h3⟩:=hx2;split
  ·exact(n1 _ _ _ rfl rfl).elim
  ·exact(n2 rfl rfl).elim
  ·exact(n3 _ _ _ _ rfl rfl).elim
  ·rw[h1,h2]
   rcases h3 with⟨rfl,h3⟩|⟨rfl,h3⟩<;>exact xret_ok h3 hk
theorem xdLookup_ok {t:Nat} {m k:AV} {ok:Bool} (hx:xdLookup ty o h t m k ok=some f) (hk:K f):dLookup ty o h t m k ok K:=by
 unfold xdLookup at hx;unfold dLookup;split at hx
 ·rename_i i hi
  split at hx
  ·rename_i kt et hd
   split at hx
   ·rename_i jk je hj hj2
    split at hx
    ·rename_i z s q k0 hz
     split at hx
     ·rename_i kd kd' h1 h2 h3
      split at hx
      ·rename_i h4
       split at hx
       ·rename_i l sp nx sz M hs
        obtain⟨hn,hx⟩:=xneed_ok hx;split at hx
        ·rename_i xs hxs
         split at hx
         ·rename_i es hes
          have key:AStO t true h fun l sp _ sz M=>ANeed (s=sp∧sz=0) (AStM kd M q fun es=>ALook es k0 z fun x b=>retR o l (lookRes ok x b) K):=
           xStO_ok hs ⟨hn,es,by rw[hxs,unk_ok hes],_,_,rfl,xretR_ok hx hk⟩
          rw[hi];dsimp only;rw[hd];dsimp only;rw[hj,hj2];dsimp only;rw[hz]
          cases k0<;>first|(cases h1;done)|(dsimp only;rw[h2,h3];dsimp only;rw[h4];exact key)
         ·cases hx
        ·cases hx
       ·cases hx
      ·cases hx
     ·cases hx
    ·cases hx
   ·cases hx
  ·cases hx
 ·cases hx
theorem xdMapUpdate_ok {t:Nat} {m k v:AV} (hx:xdMapUpdate ty h t m k v=some f) (hk:K f):dMapUpdate ty h t m k v K:=by
 unfold xdMapUpdate at hx;unfold dMapUpdate;split at hx
 ·rename_i i hi
  split at hx
  ·rename_i kt et hd
   split at hx
   ·rename_i jk je hj hj2
    split at hx
    ·rename_i s q k0 v0 hv
     split at hx
     ·rename_i kd kd' h1 h2 h3
      split at hx
      ·rename_i h4
       split at hx
       ·rename_i l sp nx sz M hs
        obtain⟨hn,hx⟩:=xneed_ok hx;split at hx
        ·rename_i xs hxs
         split at hx
         ·rename_i es hes
          cases hx
          have key:AStO t true h fun l sp nx sz M=>ANeed (s=sp∧sz=0) (AStM kd M q fun es=>K ⟨[l],[],[(l,.store t true sp nx sz (sset q ((mput k0 v0 es).map (mkk kd)) M))]⟩):=
           xStO_ok hs ⟨hn,es,by rw[hxs,unk_ok hes],hk⟩
          rw[hi];dsimp only;rw[hd];dsimp only;rw[hj,hj2];dsimp only;rw[hv]
          cases k0<;>first|(cases h1;done)|(dsimp only;rw[h2,h3];dsimp only;rw[h4];exact key)
         ·cases hx
        ·cases hx
       ·cases hx
      ·cases hx
     ·cases hx
    ·cases hx
   ·cases hx
  ·cases hx
 ·cases hx
theorem xopD_ok (hx:xopD ty o e h=some f) (hk:K f):aopD ty o e h K:=by
 unfold xopD at hx;unfold aopD;split at hx
 all_goals (try (cases hx;done))
 all_goals (rename_i ho)
 all_goals (try simp only[ho])
 all_goals first|exact xdLoad_ok hx hk|exact xdStore_ok hx hk|exact xdAlloc_ok hx hk|exact xdNil_ok hx hk|exact xdField_ok hx hk|exact xdIndex_ok hx hk|exact xdSlice_ok hx hk|exact xdLen_ok hx hk|exact xdAppend_ok hx hk|exact xdBuild_ok hx hk|exact xdMk_ok hx hk|exact xdMakeMap_ok hx hk|exact xdLookup_ok hx hk|exact xdMapUpdate_ok hx hk|exact xdBox_ok hx hk|exact xdIfc_ok hx hk|exact xdBin_ok hx hk|skip
end
end Go.AM
end
section
namespace Go.AM
section
variable {α β:Type}
def noF (o:Oper):Bool:=match o.op with
 |.move _=>true
 |.assign _=>true
 |.load ..=>true
 |_=>false
def xpush:List (Nat×β)→List (Nat×β)→(List (Nat×β)→α)→α
 | [],e,K=>K e
 |x::r,e,K=>xpush r (x::e) K
theorem xpush_eq:∀(r e:List (Nat×β)) (K:List (Nat×β)→α),xpush r e K=K (r.reverse++e)
 | [],e,K=>rfl
 |x::r,e,K=>by rw[xpush,xpush_eq r];simp
end
section
variable (ty:Nat→Option TI) (call:Nat→List AV→Heap→Option (List Nat×Heap×AV))
noncomputable def xop (mv:Nat→Bool) (o:Oper) (e:Env) (h:Heap):Option Eff:=match isDyn ty o e with
 |true=>xopD ty o e h
 |false=>xopO ty call mv o e h
def xguard (ops:List Oper) (o:Oper) (e:Env):Option (Bool×Env):=match o.guard with
 |none=>some (true,e)
 |some (j,want)=>match ops[j]? with
  |some og=>match og.dst with
   |some d=>match eget e d with
    |.p (.b g)=>some (beqB g want,(d,.p (.b g))::e)
    |.tup []=>some (false,e)
    |_=>none
   |none=>none
  |none=>none
def xputT (o:Oper) (e:Env):Env:=match o.dst with
 |some d=>(d,.tup [])::e
 |none=>e
noncomputable def xops (all l:List Oper):Env→Heap→List (Option Eff)→Option (Env×Heap×List (Option Eff)):=
 @List.rec Oper (fun _=>Env→Heap→List (Option Eff)→Option (Env×Heap×List (Option Eff)))
  (fun e h rs=>some (e,h,rs))
  (fun o _ ih e h rs=>match xguard all o e with
    |some (true,e)=>match xop ty call (moved all) o e h with
     |some f=>fF (noF o) f fun f=>xpush f.ew e fun e=>xpush f.hw h fun h=>ih e h (some f::rs)
     |none=>none
    |some (false,e)=>ih (xputT o e) h (none::rs)
    |none=>none) l
theorem xops_cons (all:List Oper) (o:Oper) (r:List Oper) (e:Env) (h:Heap) (rs:List (Option Eff)):xops ty call all (o::r) e h rs=match xguard all o e with
 |some (true,e)=>match xop ty call (moved all) o e h with
  |some f=>fF (noF o) f fun f=>xpush f.ew e fun e=>xpush f.hw h fun h=>xops ty call all r e h (some f::rs)
  |none=>none
 |some (false,e)=>xops ty call all r (xputT o e) h (none::rs)
 |none=>none:=rfl
def eqPv:PV→PV→Bool
 |.adr a b,.adr c d=>Nat.beq a c&&Nat.beq b d
 |.ads a b m,.ads c d n=>Nat.beq a c&&(Nat.beq b d&&Nat.beq m n)
 |.amp a b,.amp c d=>Nat.beq a c&&Nat.beq b d
 |.nsl,.nsl=>true
 |.nilp,.nilp=>true
 |.i k n,.i k' n'=>decide (k=k')&&decide (n=n')
 |.b x,.b y=>beqB x y
 |.s a,.s b=>decide (a=b)
 |_,_=>false
def eqAv:AV→AV→Bool
 |.p x,.p y=>eqPv x y
 |_,_=>false
def eqEw:Env→Env→Bool
 | [],[]=>true
 |(d,v)::r,(d',v')::r'=>Nat.beq d d'&&(eqAv v v'&&eqEw r r')
 |_,_=>false
def eqNs:List Nat→List Nat→Bool
 | [],[]=>true
 |a::r,b::r'=>Nat.beq a b&&eqNs r r'
 |_,_=>false
def eqEf (f g:Eff):Bool:=eqNs f.rd g.rd&&(eqEw f.ew g.ew&&(f.hw.isEmpty&&g.hw.isEmpty))
def badW (ops:List Oper) (rs:List (Option Eff)):List (Nat×Nat):=
 let ms:=masks ops []
 let l:=(ops.zip rs.reverse).zipIdx
 l.flatMap fun x=>l.filterMap fun y=>match !Nat.blt x.2 y.2||((ms[y.2]?.getD 0).testBit x.2)||apartB ops x.1.1 x.1.2 y.1.1 y.1.2 with
  |true=>none
  |false=>some (x.2,y.2)
noncomputable def wkX (ops:List Oper) (fs:List (Option Eff)) (e:Env) (h:Heap):List (Nat×Nat)→Bool
 | []=>true
 |p::r=>(match ops[p.1]?,fs[p.1]?,fs[p.2]? with
  |some o,some (some f),some (some fj)=>wkB ops fs p.1 p.2 o f fj&&(match xop ty call (moved ops) o e (fj.hw.reverse++h) with
   |some f'=>eqEf f' f
   |none=>false)
  |_,_,_=>false)&&wkX ops fs e h r
noncomputable def xindP (ops:List Oper) (rs:List (Option Eff)) (e:Env) (h:Heap):Bool:=match indB ops rs with
 |true=>true
 |false=>indW (badW ops rs) ops rs&&wkX ty call ops rs.reverse e h (badW ops rs)
noncomputable def xreg (draw:Bool) (ops:List Oper):Option (Env×Heap×List (Option Eff))→Option (Exit×Env×Heap)
 |none=>none
 |some (e,h,rs)=>match draw with
  |false=>some (.normal,e,h)
  |true=>match xindP ty call ops rs e h with
   |true=>some (.normal,e,h)
   |false=>none
def xblk (id:Nat):Option (Exit×Env×Heap)→Option (Exit×Env×Heap)
 |some (.exit i,e,h)=>match Nat.beq i id with
  |true=>some (.normal,e,h)
  |false=>some (.exit i,e,h)
 |x=>x
noncomputable def dsts (c:Code):List Nat:=
 @Code.rec (fun _=>List Nat) [] (fun _ ops _=>ops.toList.filterMap (·.dst)) (fun _ _ a b=>a++b) (fun _ _ _ a b=>a++b) (fun _ _ a=>a) (fun _ a=>a) (fun _ _ _ _ _ _=>[]) (fun _=>[]) (fun _ _=>[]) (fun _=>[]) (fun _=>[]) [] (fun _=>[]) c
noncomputable def dedE (d:Nat→Bool) (l:Env):Nat→Env:=
 @List.rec (Nat×AV) (fun _=>Nat→Env) (fun _=>[]) (fun x _ ih s=>match Nat.testBit s x.1 with
  |true=>ih s
  |false=>match x.2.within d with
   |true=>x::ih (Nat.lor s (Nat.pow 2 x.1))
   |false=>ih (Nat.lor s (Nat.pow 2 x.1))) l
def dedH (d:Nat→Bool) (K:List Nat):Heap→Heap
 | []=>[]
 |(l,o)::r=>match memB K l||d l with
  |true=>dedH d K r
  |false=>(l,o)::dedH d (l::K) r
def gcH (D:List Nat) (h:Heap):Heap:=dedH (memB D) [] h
noncomputable def gcB (c:Code) (e:Env) (h:Heap):Option (Env×Heap):=
 fL (gcH (dsts c) h) fun h'=>fNs (keysOf h') fun ks=>match objsIn (memB ks) h' with
 |true=>fL (dedE (memB ks) e 0) fun e=>some (e,h')
 |false=>none
noncomputable def xcode (k:Nat):Code→Env→Heap→Option (Exit×Env×Heap):=
 @Nat.rec (fun _=>Code→Env→Heap→Option (Exit×Env×Heap)) (fun _ _ _=>none)
  (fun _ ih c0=>@Code.rec (fun _=>Env→Heap→Option (Exit×Env×Heap))
    (fun e h=>some (.normal,e,h))
    (fun _ ops draw e h=>xreg ty call draw ops.toList (xops ty call ops.toList ops.toList e h []))
    (fun _ _ iha ihb e h=>match iha e h with
      |some (.normal,e,h)=>ihb e h
      |x=>x)
    (fun c _ _ iha ihb e h=>match ev e c with
      |.p (.b true)=>iha e h
      |.p (.b false)=>ihb e h
      |_=>none)
    (fun id _ ihc e h=>xblk id (ihc e h))
    (fun c ihc e h=>match ihc e h with
      |some (.normal,e,h)=>match gcB c e h with
       |some (e,h)=>ih (.loop c) e h
       |none=>none
      |x=>x)
    (fun _ _ _ _ _ _ _ _=>none)
    (fun i e h=>some (.exit i,e,h))
    (fun _ _ _ _=>none) (fun _ _ _=>none) (fun _ _ _=>none)
    (fun e h=>some (.ret,e,h))
    (fun _ _ _=>none) c0) k
end
section
variable {ty:Nat→Option TI} {call:Nat→List AV→Heap→Option (List Nat×Heap×AV)} {pc:Nat→List AV→Heap→(List Nat→Heap→AV→Prop)→Prop}
theorem xop_ok (hc:∀g l H rd hw r,call g l H=some (rd,hw,r)→∀K:List Nat→Heap→AV→Prop,K rd hw r→pc g l H K) {mv:Nat→Bool} {o:Oper} {e:Env} {h:Heap} {f:Eff} {K:AK} (hx:xop ty call mv o e h=some f) (hk:K f):aop ty pc mv o e h K:=by
 unfold xop at hx;unfold aop
 cases hd:isDyn ty o e with
 |true=>rw[hd]at hx;exact xopD_ok hx hk
 |false=>rw[hd]at hx;exact xopO_ok hc hx hk
theorem xguard_ok {ops:List Oper} {o:Oper} {e e1:Env} {b:Bool} {S X:Env→Prop} (hx:xguard ops o e=some (b,e1)) (hk:match b with|true=>X e1|false=>S e1):guardOf ops o e S X:=by
 unfold xguard at hx;unfold guardOf
 cases hg:o.guard with
 |none=>rw[hg]at hx;cases hx;exact hk
 |some p=>
  obtain⟨j,want⟩:=p;rw[hg]at hx;dsimp only at hx ⊢;split at hx
  ·rename_i og h1
   rw[h1];dsimp only;split at hx
   ·rename_i d h2
    rw[h2];dsimp only;split at hx
    ·rename_i g h3
     rw[h3];dsimp only;cases hx
     cases g<;>cases want<;>exact hk
    ·rename_i h3
     rw[h3];cases hx;exact hk
    ·cases hx
   ·cases hx
  ·cases hx
theorem xops_ok (hc:∀g l H rd hw r,call g l H=some (rd,hw,r)→∀K:List Nat→Heap→AV→Prop,K rd hw r→pc g l H K) (all:List Oper):∀(l:List Oper) (e:Env) (h:Heap) (rs:List (Option Eff)) {e':Env} {h':Heap} {rs':List (Option Eff)},xops ty call all l e h rs=some (e',h',rs')→
 (∀K:Env→Heap→Prop,K e' h'→aops ty pc all l e h K)∧(∀K:Env→Heap→List (Option Eff)→Prop,K e' h' rs'→aopsR ty pc all l e h rs K)
 | [],e,h,rs,e',h',rs',hx=>by cases hx;exact⟨fun _ hk=>hk,fun _ hk=>hk⟩
 |o::r,e,h,rs,e',h',rs',hx=>by
  rw[xops_cons]at hx;split at hx
  ·rename_i e1 hg
   split at hx
   ·rename_i f hf
    rw[fF_eq,xpush_eq,xpush_eq]at hx;obtain⟨k1,k2⟩:=xops_ok hc all r _ _ _ hx;refine⟨fun K hk=>?_,fun K hk=>?_⟩
    ·rw[aops_cons]
     refine xguard_ok hg ?_;refine xop_ok hc hf ?_;rw[pushE_iff,pushH_iff];exact k1 K hk
    ·rw[aopsR_cons]
     refine xguard_ok hg ?_;refine xop_ok hc hf ?_;rw[pushE_iff,pushH_iff];exact k2 K hk
   ·cases hx
  ·rename_i e1 hg
   obtain⟨k1,k2⟩:=xops_ok hc all r _ _ _ hx;unfold xputT at k1 k2;refine⟨fun K hk=>?_,fun K hk=>?_⟩
   ·rw[aops_cons]
    refine xguard_ok hg ?_;show putT o e1 _;unfold putT
    cases hd:o.dst with
    |none=>rw[hd]at k1;exact k1 K hk
    |some d=>rw[hd]at k1;exact k1 K hk
   ·rw[aopsR_cons]
    refine xguard_ok hg ?_;show putT o e1 _;unfold putT
    cases hd:o.dst with
    |none=>rw[hd]at k2;exact k2 K hk
    |some d=>rw[hd]at k2;exact k2 K hk
  ·cases hx
end
theorem dedE_spec (d:Nat→Bool):∀(l:Env) (s i:Nat),eget (dedE d l s) i=.top∨(Nat.testBit s i=false∧eget (dedE d l s) i=eget l i∧(eget l i).within d=true)
 | [],s,i=>.inl rfl
 |(k,v)::r,s,i=>by
  have ihs:=dedE_spec d r
  have e1:dedE d ((k,v)::r) s=match Nat.testBit s k with
   |true=>dedE d r s
   |false=>match v.within d with
    |true=>(k,v)::dedE d r (Nat.lor s (Nat.pow 2 k))
    |false=>dedE d r (Nat.lor s (Nat.pow 2 k)):=rfl
  have bit:∀j,Nat.testBit (Nat.lor s (Nat.pow 2 k)) j=false→Nat.testBit s j=false∧k≠j:=by
   intro j hj;have:(s |||2 ^ k).testBit j=false:=hj;rw[Nat.testBit_or,Bool.or_eq_false_iff,Nat.testBit_two_pow]at this;exact⟨this.1,by simpa using this.2⟩
  rw[e1]
  cases h1:Nat.testBit s k with
  |true=>
   dsimp only;rcases ihs s i with h|⟨h,h',h''⟩
   ·exact .inl h
   ·have:k≠i:=fun q=>by rw[q,h]at h1;cases h1
    rw[eget_ne this];exact .inr ⟨h,h',h''⟩
  |false=>
   dsimp only
   cases h2:v.within d with
   |true=>
    dsimp only
    by_cases q:k=i
    ·subst q;right;rw[eget_self,eget_self];exact⟨h1,rfl,h2⟩
    ·rw[eget_ne q,eget_ne q]
     rcases ihs _ i with h|⟨h,h',h''⟩
     ·exact .inl h
     ·exact .inr ⟨(bit i h).1,h',h''⟩
   |false=>
    dsimp only;rcases ihs (Nat.lor s (Nat.pow 2 k)) i with h|⟨h,h',h''⟩
    ·exact .inl h
    ·rw[eget_ne (bit i h).2]
     exact .inr ⟨(bit i h).1,h',h''⟩
theorem memB_cons_false {x:Nat} {K:List Nat} {l:Nat} (h:memB (x::K) l=false):x≠l∧memB K l=false:=by
 simp only[memB]at h;split at h
 ·cases h
 ·rename_i hb;exact⟨fun q=>by subst q;simp at hb,h⟩
theorem dedH_spec (d:Nat→Bool):∀(h:Heap) (K:List Nat) (l:Nat) (o:AObj),hget (dedH d K h) l=some o→memB K l=false∧hget h l=some o
 | [],K,l,o,hq=>by simp[dedH,hget]at hq
 |(k,x)::r,K,l,o,hq=>by
  rw[dedH]at hq;split at hq
  ·rename_i hb
   obtain⟨h1,h2⟩:=dedH_spec d r K l o hq;refine⟨h1,?_⟩
   by_cases q:k=l
   ·subst q
    exfalso;rw[h1,Bool.false_or]at hb;exact dedH_not d r K k hb _ hq
   ·rw[hget_ne q];exact h2
  ·rename_i hb
   by_cases q:k=l
   ·subst q
    rw[hget_self]at hq ⊢;cases hq;exact⟨(Bool.or_eq_false_iff.1 hb).1,rfl⟩
   ·rw[hget_ne q]at hq ⊢
    obtain⟨h1,h2⟩:=dedH_spec d r (k::K) l o hq;exact⟨(memB_cons_false h1).2,h2⟩
where
 dedH_not (d:Nat→Bool):∀(h:Heap) (K:List Nat) (l:Nat),d l=true→∀o,hget (dedH d K h) l≠some o
 | [],K,l,_,o=>by simp[dedH,hget]
 |(k,x)::r,K,l,hd,o=>by
  rw[dedH];split
  ·exact dedH_not d r K l hd o
  ·rename_i hb
   by_cases q:k=l
   ·subst q;rw[hd,Bool.or_true]at hb;cases hb
   ·rw[hget_ne q];exact dedH_not d r (k::K) l hd o
section
variable {P:Program} {ty:Nat→Option TI} {n:Nat}
theorem Sim.sub {g:Gh} {w:World} {a:Act} {e e':Env} {h h':Heap} (s:Sim g w n a e h) (he:∀i,eget e' i=.top∨(eget e' i=eget e i∧(eget e i).within (memB (keysOf h'))=true)) (h1:∀l o,hget h' l=some o→hget h l=some o) (h2:objsIn (memB (keysOf h')) h'=true):Sim g w n a e' h':=by
 have hd:∀l,memB (keysOf h') l=true→domOf h' l:=fun l hl=>by
  obtain⟨ob,hob⟩:=hget_of_key h' l (memB_mem _ _ hl);unfold domOf;rw[hob];rfl
 refine⟨s.defers,s.size,fun i=>?_,⟨fun l o hl=>?_,fun l o hl=>s.heap.own l o (h1 l o hl),fun l o hl=>s.heap.pre l o (h1 l o hl)⟩,s.bnd⟩
 ·rcases he i with q|⟨q,q'⟩
  ·rw[q];exact .top _ _
  ·rw[q];exact(s.env i).within hd q'
 ·have hw:=objsIn_get h' h2 l o hl
  cases s.heap.obj l o (h1 l o hl) with
  |cells cs vs E hb hlen hx' h1'=>exact .cells cs vs E hb hlen (fun j v c r1 r2=>(hx' j v c r1 r2).within hd (withins_get _ cs (by simpa[AObj.within] using hw) j c r2)) h1'
  |arr xs vs E hb hlen hx' h1'=>exact .arr xs vs E hb hlen hx' h1'
  |store T3 o3 sp3 nx3 z3 M3 hst=>exact .store T3 o3 sp3 nx3 z3 M3 hst
  |glob gb gvs hgl=>exact .glob gb gvs hgl
  |map kd xs es clock hb hx hc=>exact .map kd xs es clock hb hx hc
  |gr st sz xs hg=>exact .gr st sz xs hg
  |dead=>exact .dead
  |bld T E2 bs2 hbl=>exact .bld T E2 bs2 hbl
theorem gcB_sim {c:Code} {e e':Env} {h h':Heap} (hx:gcB c e h=some (e',h')) {g:Gh} {w:World} {a:Act} (s:Sim g w n a e h):Sim g w n a e' h':=by
 unfold gcB at hx;simp only[fL_eq,fNs_eq]at hx;split at hx
 ·rename_i ho
  cases hx;refine s.sub (fun i=>?_) (fun l o q=>(dedH_spec _ _ _ _ _ q).2) ho;rcases dedE_spec (memB (keysOf (gcH (dsts c) h))) e 0 i with q|⟨_,q,q'⟩
  ·exact .inl q
  ·exact .inr ⟨q,q'⟩
 ·cases hx
theorem AWp.block {id:Nat} {c:Code} {K:Exit→Env→Heap→Prop} {e:Env} {h:Heap} (hk:AWp P n c (fun x e h=>match x with
 |.exit i=>match Nat.beq i id with|true=>K .normal e h|false=>K (.exit i) e h
 |x=>K x e h) e h):AWp P n (.block id c) K e h:=by
 intro g0 w0 g w a s hE;refine wp_block (wp_mono (hk g0 w0 g w a s hE) ?_);rintro ex a' w' ⟨g',e',h',hk',s',hE'⟩
 cases ex with
 |exit i=>
  simp only[Exit.inBlock]
  by_cases q:i=id
  ·subst q
   rw[if_pos rfl];simp only[beq_self]at hk';exact⟨g',e',h',hk',s',hE'⟩
  ·rw[if_neg q]
   simp only[beq_false q]at hk';exact⟨g',e',h',hk',s',hE'⟩
 |_=>exact⟨g',e',h',hk',s',hE'⟩
end
end Go.AM
end
