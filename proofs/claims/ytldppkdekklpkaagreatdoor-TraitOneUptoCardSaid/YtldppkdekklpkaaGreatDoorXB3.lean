/- Contracts, and the law, for every input. No conditions. -/
import Derived.Test.YtldppkdekklpkaaGreatDoorSC2
import Derived.Test.YtldppkdekklpkaaGreatDoorCW2
import Derived.Test.YtldppkdekklpkaaGreatDoorTKD
import Derived.Shelf.SlMaps.Clone
set_option linter.all false
section
open Go Go.AM Go.Proofs
set_option maxRecDepth 100000
namespace XE
open KK
open CV (lens concatPat_spec)
mutual
def dTy:PV→Option KK.Ty
 |.agg [.i .i64 k,.s n,.sl 3 xs]=>match dTys xs with|some l=>some (.mk k n l)|none=>none
 |_=>none
def dTys:List PV→Option (List KK.Ty)
 | []=>some []
 |x::r=>match dTy x,dTys r with|some t,some l=>some (t::l)|_,_=>none
end
mutual
theorem dTy_eq:∀(x:PV) {t:KK.Ty},dTy x=some t→x=KK.eT t
 |.agg [.i .i64 k,.s n,.sl 3 xs],t,h=>by
  rw[dTy]at h;split at h
  ·rename_i l hl;cases h;rw[KK.eT,dTys_eq xs hl]
  ·cases h
 |x,t,h=>by
  unfold dTy at h;split at h
  ·rename_i k n xs
   split at h
   ·rename_i l hl;cases h;rw[KK.eT,dTys_eq xs hl]
   ·cases h
  ·cases h
theorem dTys_eq:∀(x:List PV) {t:List KK.Ty},dTys x=some t→x=KK.eTs t
 | [],t,h=>by cases h;rfl
 |x::r,t,h=>by
  rw[dTys]at h;split at h
  ·rename_i a l h1 h2;cases h;rw[KK.eTs,dTy_eq x h1,dTys_eq r h2]
  ·cases h
end
def dTM:List (PV×PV)→Option TM
 | []=>some []
 |(.s n,x)::r=>match dTy x,dTM r with|some t,some m=>some ((n,t)::m)|_,_=>none
 |_::_=>none
theorem dTM_eq:∀(l:List (PV×PV)) {m:TM},dTM l=some m→l=eM eT m
 | [],m,h=>by cases h;rfl
 |(.s n,x)::r,m,h=>by
  rw[dTM]at h;split at h
  ·rename_i t m' h1 h2;cases h;rw[dTy_eq x h1,dTM_eq r h2];rfl
  ·cases h
def memK (k:ByteArray):TM→Bool
 | []=>false
 |(a,_)::r=>(match beqL k.toList a.toList with|true=>true|false=>memK k r)
def goodB:TM→Bool
 | []=>true
 |(a,t)::r=>!(memK a r)&&(Nat.ble (nodes t) 400&&goodB r)
def mxBind (az:List AV) (hs:Heap):Option (AV×Heap):=match az,hs with
 | [.ptr 1000000000 0,.p (.s n),.p x],[(1000000000,.cells [.mp 1000000001]),(1000000001,.map .ks es)]=>match dTy x,dTM es with
   |some t,some m=>match goodB m&&Nat.ble (nodes t) 400 with
    |true=>some (.p (.i .i64 (bindF m n t).1),hpS (bindF m n t).2)
    |false=>none
   |_,_=>none
 |_,_=>none
theorem beqL_eq:∀{a b:List UInt8},beqL a b=true↔a=b
 | [],[]=>by simp[beqL]
 | [],_::_=>by simp[beqL]
 |_::_,[]=>by simp[beqL]
 |a::r,b::r'=>by
  rw[beqL]
  cases hq:Nat.beq a.toNat b.toNat with
  |true=>
   have:a=b:=UInt8.toNat_inj.1 (Nat.eq_of_beq_eq_true hq);subst this;simp[beqL_eq]
  |false=>
   simp;intro e;subst e;simp at hq
theorem memK_not {k:ByteArray}:∀{m:TM},memK k m=false→k∉keysT m
 | [],_=>by simp[keysT]
 |(a,t)::r,h=>by
  rw[memK]at h;split at h
  ·cases h
  ·rename_i hb
   intro hk;rcases List.mem_cons.1 (show k∈a::keysT r from hk) with rfl|hk
   ·rw[beqL_eq.2 rfl]at hb;cases hb
   ·exact memK_not h hk
theorem good_of:∀{m:TM},goodB m=true→Good m
 | [],_=>⟨List.nodup_nil,by simp⟩
 |(a,t)::r,h=>by
  rw[goodB,Bool.and_eq_true,Bool.and_eq_true,Bool.not_eq_true']at h;have:=good_of h.2.2;refine⟨List.nodup_cons.2 ⟨memK_not h.1,this.1⟩,fun p hp=>?_⟩;rcases List.mem_cons.1 hp with rfl|hp
  ·exact Nat.le_of_ble_eq_true h.2.1
  ·exact this.2 p hp
theorem mxBind_ok {az:List AV} {hs h2:Heap} {r:AV} (h:mxBind az hs=some (r,h2)):AMem Tryz.prog 215 az hs r h2:=by
 unfold mxBind at h;split at h
 ·rename_i n x es
  split at h
  ·rename_i t m h1 h3
   split at h
   ·rename_i hg
    rw[Bool.and_eq_true]at hg;cases h;rw[dTy_eq x h1,dTM_eq es h3];exact bind_ok m (good_of hg.1) n t (Nat.le_of_ble_eq_true hg.2)
   ·cases h
  ·cases h
 ·cases h
def catP:List PV→Option (List (List PV))
 | []=>some []
 |.sl 4 xs::r=>match catP r with|some l=>some (xs::l)|none=>none
 |_::_=>none
theorem catP_eq:∀{l:List PV} {q:List (List PV)},catP l=some q→l=q.map (.sl 4)
 | [],q,h=>by cases h;rfl
 |x::r,q,h=>by
  unfold catP at h;split at h
  ·rename_i heq;cases heq
  ·rename_i xs r' heq
   split at h
   ·rename_i l hl;cases h;cases heq;rw[List.map_cons,←catP_eq hl]
   ·cases h
  ·cases h
def mxCat (az:List AV) (hs:Heap):Option (AV×Heap):=match az,hs with
 | [.p (.sl 1 l)],[]=>match catP l with
   |some q=>match Nat.ble q.length 1000&&Nat.ble (lens q) 10000000 with
    |true=>some (.p (.sl 4 q.flatten),[])
    |false=>none
   |none=>none
 |_,_=>none
theorem mxCat_ok {az:List AV} {hs h2:Heap} {r:AV} (h:mxCat az hs=some (r,h2)):AMem Tryz.prog 171 az hs r h2:=by
 unfold mxCat at h;split at h
 ·split at h
  ·rename_i q hq
   split at h
   ·rename_i hg
    rw[Bool.and_eq_true]at hg;cases h;rw[catP_eq hq];exact concatPat_spec q (Nat.le_of_ble_eq_true hg.1) (Nat.le_of_ble_eq_true hg.2)
   ·cases h
  ·cases h
 ·cases h
end XE
end
section
open Go Go.AM Go.Proofs
set_option maxRecDepth 100000
namespace XE
open TR
def dSs:List PV→Option (List ByteArray)
 | []=>some []
 |.s n::r=>match dSs r with|some l=>some (n::l)|none=>none
 |_::_=>none
theorem dSs_eq:∀{x:List PV} {l:List ByteArray},dSs x=some l→x=l.map eStr
 | [],l,h=>by cases h;rfl
 |x::r,l,h=>by
  unfold dSs at h;split at h
  ·rename_i q;cases q
  ·rename_i n r' q
   cases q;split at h
   ·rename_i l' hl;cases h;rw[dSs_eq hl];rfl
   ·cases h
  ·cases h
mutual
def dT:PV→Option TR.Ty
 |.agg [.i .i64 k,.s n,.sl 3 xs]=>match dTs xs with|some l=>some (.mk k n l)|none=>none
 |_=>none
def dTs:List PV→Option (List TR.Ty)
 | []=>some []
 |x::r=>match dT x,dTs r with|some t,some l=>some (t::l)|_,_=>none
end
mutual
theorem dT_eq:∀(x:PV) {t:TR.Ty},dT x=some t→x=TR.eT t
 |.agg [.i .i64 k,.s n,.sl 3 xs],t,h=>by
  rw[dT]at h;split at h
  ·rename_i l hl;cases h;rw[TR.eT,dTs_eq xs hl]
  ·cases h
 |x,t,h=>by
  unfold dT at h;split at h
  ·rename_i k n xs
   split at h
   ·rename_i l hl;cases h;rw[TR.eT,dTs_eq xs hl]
   ·cases h
  ·cases h
theorem dTs_eq:∀(x:List PV) {t:List TR.Ty},dTs x=some t→x=TR.eTs t
 | [],t,h=>by cases h;rfl
 |x::r,t,h=>by
  rw[dTs]at h;split at h
  ·rename_i a l h1 h2;cases h;rw[TR.eTs,dT_eq x h1,dTs_eq r h2]
  ·cases h
end
mutual
def dP:PV→Option Pt
 |.agg [.i .i64 k,.i .i64 n,.s t,.sl 4 xs]=>match dPs xs with|some l=>some (.mk k n t l)|none=>none
 |_=>none
def dPs:List PV→Option (List Pt)
 | []=>some []
 |x::r=>match dP x,dPs r with|some t,some l=>some (t::l)|_,_=>none
end
mutual
theorem dP_eq:∀(x:PV) {t:Pt},dP x=some t→x=eP t
 |.agg [.i .i64 k,.i .i64 n,.s s,.sl 4 xs],t,h=>by
  rw[dP]at h;split at h
  ·rename_i l hl;cases h;rw[eP,dPs_eq xs hl]
  ·cases h
 |x,t,h=>by
  unfold dP at h;split at h
  ·rename_i k n s xs
   split at h
   ·rename_i l hl;cases h;rw[eP,dPs_eq xs hl]
   ·cases h
  ·cases h
theorem dPs_eq:∀(x:List PV) {t:List Pt},dPs x=some t→x=ePs t
 | [],t,h=>by cases h;rfl
 |x::r,t,h=>by
  rw[dPs]at h;split at h
  ·rename_i a l h1 h2;cases h;rw[ePs,dP_eq x h1,dPs_eq r h2]
  ·cases h
end
mutual
def dE:PV→Option Ex
 |.agg [.i .i64 k,.i .i64 n,.s t,.sl 1 ns,.sl 3 ts,.sl 8 xs,.sl 12 ms,.i .i64 p]=>match dSs ns,dTs ts,dEs xs,dAs ms with
  |some ns,some ts,some xs,some ms=>some (.mk k n t ns ts xs ms p)
  |_,_,_,_=>none
 |_=>none
def dEs:List PV→Option (List Ex)
 | []=>some []
 |x::r=>match dE x,dEs r with|some t,some l=>some (t::l)|_,_=>none
def dA:PV→Option Arm
 |.agg [.i .i64 pk,.i .i64 pn,.s pt,.sl 4 ps,.i .i64 k,.i .i64 n,.s t,.sl 1 ns,.sl 3 ts,.sl 8 xs,.sl 12 ms,.i .i64 p]=>match dPs ps,dSs ns,dTs ts,dEs xs,dAs ms with
  |some ps,some ns,some ts,some xs,some ms=>some (.mk (.mk pk pn pt ps) (.mk k n t ns ts xs ms p))
  |_,_,_,_,_=>none
 |_=>none
def dAs:List PV→Option (List Arm)
 | []=>some []
 |x::r=>match dA x,dAs r with|some t,some l=>some (t::l)|_,_=>none
end
mutual
theorem dE_eq:∀(x:PV) {t:Ex},dE x=some t→x=eE t
 |.agg [.i .i64 k,.i .i64 n,.s s,.sl 1 ns,.sl 3 ts,.sl 8 xs,.sl 12 ms,.i .i64 p],t,h=>by
  rw[dE]at h;split at h
  ·rename_i h1 h2 h3 h4;cases h;rw[eE,dSs_eq h1,dTs_eq _ h2,dEs_eq xs h3,dAs_eq ms h4]
  ·cases h
 |x,t,h=>by
  unfold dE at h;split at h
  ·split at h
   ·rename_i h1 h2 h3 h4;cases h;rw[eE,dSs_eq h1,dTs_eq _ h2,dEs_eq _ h3,dAs_eq _ h4]
   ·cases h
  ·cases h
theorem dEs_eq:∀(x:List PV) {t:List Ex},dEs x=some t→x=eEs t
 | [],t,h=>by cases h;rfl
 |x::r,t,h=>by
  rw[dEs]at h;split at h
  ·rename_i a l h1 h2;cases h;rw[eEs,dE_eq x h1,dEs_eq r h2]
  ·cases h
theorem dA_eq:∀(x:PV) {t:Arm},dA x=some t→x=eA t
 |.agg [.i .i64 pk,.i .i64 pn,.s pt,.sl 4 ps,.i .i64 k,.i .i64 n,.s s,.sl 1 ns,.sl 3 ts,.sl 8 xs,.sl 12 ms,.i .i64 p],t,h=>by
  rw[dA]at h;split at h
  ·rename_i h0 h1 h2 h3 h4;cases h;rw[eA,eP,eE,dPs_eq _ h0,dSs_eq h1,dTs_eq _ h2,dEs_eq xs h3,dAs_eq ms h4];rfl
  ·cases h
 |x,t,h=>by
  unfold dA at h;split at h
  ·split at h
   ·rename_i h0 h1 h2 h3 h4;cases h;rw[eA,eP,eE,dPs_eq _ h0,dSs_eq h1,dTs_eq _ h2,dEs_eq _ h3,dAs_eq _ h4];rfl
   ·cases h
  ·cases h
theorem dAs_eq:∀(x:List PV) {t:List Arm},dAs x=some t→x=eAs t
 | [],t,h=>by cases h;rfl
 |x::r,t,h=>by
  rw[dAs]at h;split at h
  ·rename_i a l h1 h2;cases h;rw[eAs,dA_eq x h1,dAs_eq r h2]
  ·cases h
end
noncomputable def walkV (k:Nat):PV→List PV:=@Nat.rec (fun _=>PV→List PV) (fun _=>[]) (fun _ ih x=>match x with
 |.agg [_,_,_,_,_,.sl _ l,.sl _ ms,_]=>x::(l.flatMap ih++ms.flatMap fun m=>match m with
  |.agg [_,_,_,_,a,b,c,d,e,f,g,h]=>ih (.agg [a,b,c,d,e,f,g,h])
  |_=>[])
 |_=>[]) k
theorem walkV_eq:∀(k:Nat) (e:Ex),wE e≤k→walkV k (eE e)=eEs (walkF e)
 |0,e,h=>by have:=wE_pos e;omega
 |k+1,.mk kd n t ns ts xs ms p,h=>by
  rw[wE_mk]at h
  have h1:∀l:List Ex,PV.wts (eEs l)≤k→(eEs l).flatMap (walkV k)=eEs (walkFs l):=by
   intro l
   induction l with
   |nil=>intro _;rfl
   |cons a r ih=>
    intro hl;rw[eEs,PV.wts]at hl;rw[eEs,List.flatMap_cons,walkV_eq k a (by unfold wE;omega),ih (by omega),walkFs,eEs_app]
  have h2:∀l:List Arm,PV.wts (eAs l)≤k→(eAs l).flatMap (fun m=>match m with
   |.agg [_,_,_,_,a,b,c,d,e,f,g,h]=>walkV k (.agg [a,b,c,d,e,f,g,h])
   |_=>[])=eEs (walkFa l):=by
   intro l
   induction l with
   |nil=>intro _;rfl
   |cons a r ih=>
    intro hl;rw[eAs,PV.wts]at hl;obtain⟨q,b⟩:=a;have hw:PV.wt (eA (.mk q b))=wP q+wE b:=wA_mk q b;have hb:=walkV_eq k b (by omega);rw[eAs,List.flatMap_cons,ih (by omega),walkFa,eEs_app,←hb];obtain⟨qk,qn,qt,qx⟩:=q;obtain⟨bk,bn,bt,bns,bts,bx,bm,bp⟩:=b;rfl
  show eE (.mk kd n t ns ts xs ms p)::((eEs xs).flatMap (walkV k)++(eAs ms).flatMap _)=_;rw[h1 xs (by omega),walkF,eEs,eEs_app]
  congr 2
  exact h2 ms (by omega)
noncomputable def walkX (x:PV):Option AV:=match dE x with
 |some _=>match Nat.ble (PV.wt x) 1048576 with
  |true=>some (.p (.sl 8 (walkV 1048576 x)))
  |false=>none
 |none=>none
theorem walkX_ok {x:PV} {r:AV} (h:walkX x=some r):APure Tryz.prog 65 [.p x] r:=by
 unfold walkX at h;split at h
 ·rename_i e he
  split at h
  ·rename_i hw
   have hx:=dE_eq _ he;cases h;have hw:=Nat.le_of_ble_eq_true hw;rw[hx]at hw ⊢;rw[walkV_eq _ e hw];exact walk_spec e hw
  ·cases h
 ·cases h
def bodyV:PV→PV
 |.agg [_,_,_,_,a,b,c,d,e,f,g,h]=>.agg [a,b,c,d,e,f,g,h]
 |x=>x
def partsV:PV→List PV
 |.agg [_,_,_,_,_,.sl _ l,.sl _ ms,_]=>l++ms.map bodyV
 |_=>[]
def partsX (x:PV):Option AV:=match dE x with
 |some _=>match Nat.ble (PV.wt x) 1048576 with
  |true=>some (.p (.sl 8 (partsV x)))
  |false=>none
 |none=>none
theorem partsV_eq:∀e:Ex,partsV (eE e)=eEs (partsF e)
 |.mk kd n t ns ts xs ms p=>by
  have h2:∀l:List Arm,(eAs l).map bodyV=eEs (l.map Arm.body):=by
   intro l
   induction l with
   |nil=>rfl
   |cons a r ih=>
    obtain⟨⟨qk,qn,qt,qx⟩,⟨bk,bn,bt,bns,bts,bx,bm,bp⟩⟩:=a;rw[eAs,List.map_cons,ih];rfl
  show eEs xs++(eAs ms).map bodyV=_;rw[h2,←eEs_app];rfl
theorem partsX_ok {x:PV} {r:AV} (h:partsX x=some r):APure Tryz.prog 175 [.p x] r:=by
 unfold partsX at h;split at h
 ·rename_i e he
  split at h
  ·rename_i hw
   have hx:=dE_eq _ he;cases h;have hw:=Nat.le_of_ble_eq_true hw;rw[hx]at hw ⊢;rw[partsV_eq];exact parts_spec e hw
  ·cases h
 ·cases h
end XE
end
section
open Go Go.AM Go.Proofs Go.Shelf
set_option maxRecDepth 100000
namespace XE
def mcl_ren:Go.Shelf.Ren:=⟨fun|5=>269|7=>297|n=>n,fun|4=>4|20=>20|23=>135|25=>9|3=>4|n=>n,fun|n=>n⟩
theorem mcl:SlLaysW.n5 Tryz.prog mcl_ren:={
 mixed:=by kernel_rfl
 f5:=⟨Tryz.f269.name,by kernel_rfl,Tryz.func269.trans (congrArg some (by kernel_rfl))⟩
 f7:=Tryz.func297.trans (congrArg some (by kernel_rfl))
 t4:=Tryz.underlying4
 a4:=Tryz.isAgg4
 z4:=Tryz.sizeOf4
 v4:=Tryz.zeroValue4
 t20:=Tryz.underlying20
 a20:=Tryz.isAgg20
 z20:=Tryz.sizeOf20
 v20:=Tryz.zeroValue20
 t23:=Tryz.underlying135
 a23:=Tryz.isAgg135
 z23:=Tryz.sizeOf135
 v23:=Tryz.zeroValue135 }
theorem mclone_spec (es:List (PV×PV)):AMem Tryz.prog 269 [.mp 1000000000] [(1000000000,.map .ks es)] (.mp 2) [(2,.map .ks es),(1000000000,.map .ks es)]:=by
 refine⟨⟨⟨_,_,Tryz.func269,rfl,rfl⟩,rfl⟩,fun g w vs hH hbn hl hrel=>?_⟩
 match vs,hl with
 | [v],_=>
   have h0:=hrel 0 v _ rfl rfl
   cases h0 with
   |mp _ _ hd=>
    cases hH.obj 1000000000 _ rfl with
    |map _ _ es0 clock hb hx hc=>
     refine(AnyW.maps_Clone mcl (g.ρ 1000000000) es0 clock w hb).mono ?_;rintro e w' ⟨rfl,rfl⟩;have s:Sim g w 0 { tmps:=#[],defers:=[] } [] [(1000000000,.map .ks es)]:=⟨rfl,rfl,fun i=>by simp[eget];exact .top _ _,hH,hbn⟩
     have s':=s.pushObj (d:=2) rfl (.map es0 clock) (.map .ks es) (fun dom' hdm up=>.map .ks es es0 clock (by simp[Gh.newObj,push_new]) ⟨hx.1,fun j p1 p2 p3 p4=>⟨(hx.2 j p1 p2 p3 p4).1.mono (fun _ _ _ hv=>imm_push (fun b hb=>by simp[Gh.newObj,Nat.ne_of_lt hb]) hv) (fun _ _ _ q=>q),(hx.2 j p1 p2 p3 p4).2.mono (fun _ _ _ hv=>imm_push (fun b hb=>by simp[Gh.newObj,Nat.ne_of_lt hb]) hv) (fun _ _ _ q=>q)⟩⟩ hc);refine⟨_,g.newObj w.heap.size 2,rfl,?_,s'.heap,s'.bnd,Ext.push (fun b hb=>by simp[Gh.newObj,Nat.ne_of_lt hb]) (fun a=>frozen_push_map a) (fun l hl=>newObj_ρ (by decide) l hl)⟩;have:w.heap.size=(g.newObj w.heap.size 2).ρ 2:=by simp[Gh.newObj]
     conv=>arg 5;rw[this]
     exact .mp _ _ (by simp[domOf,hget])
end XE
end
