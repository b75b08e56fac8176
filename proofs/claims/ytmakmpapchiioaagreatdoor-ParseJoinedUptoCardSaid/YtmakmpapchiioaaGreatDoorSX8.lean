/-
  DERIVED. Contracts of functions that the law reaches, and the law, for every input. No conditions.
-/
import Derived.Test.YtmakmpapchiioaaGreatDoorSX5
import Derived.Shelf.Spec.SlicesGrow
open Go Go.AM Go.Proofs Go.Shelf TR TK PA
set_option maxRecDepth 100000
namespace SX
open SH SW
theorem infoParts {o:Option TypeInfo} {a b c:Nat} (h:o.map (fun i=>(i.zero.map fun z=>z.cells.size,i.size,i.bytes))=some (some a,b,c)):∃i z,o=some i∧i.zero=some z∧z.cells.size=a∧i.size=b∧i.bytes=c:=by
 cases o with
 |none=>cases h
 |some i=>
  simp only[Option.map_some,Option.some.injEq,Prod.mk.injEq,Option.map_eq_some_iff]at h
  obtain⟨⟨z,h1,h2⟩,h3,h4⟩:=h
  exact⟨i,z,rfl,h1,h2,h3,h4⟩
theorem grow_size (z:Array Value) (n cap:Nat):cap*z.size≤(([]:List Value).toArray++Builtin.zeroCells z (0+n-0)++Builtin.zeroCells z (cap-(0+n))).size:=by
 simp only[Array.size_append,List.size_toArray,List.length_nil,zeroCells_size,Nat.zero_add,Nat.sub_zero]
 rw[←Nat.add_mul]
 exact Nat.mul_le_mul_right _ (by omega)
theorem grow_rel {f:Nat} (sz:Nat) (hz:0<sz) (g:Gh) (w:World) (n:Nat) (hh:HRel g w []) (hbn:∀b ow,g.own b=some ow→b<w.heap.size)
 (h0:n=0→Calls Tryz.prog f #[.slice none 0 0,.int .i64 n] w fun e w'=>e=.returned (.slice none 0 0)∧w'=w)
 (h1:0<n→Calls Tryz.prog f #[.slice none 0 0,.int .i64 n] w fun e w'=>∃(cap:Nat) (cs:Array Value) (E:TypeId),e=.returned (.slice (some ⟨w.heap.size,0,none⟩) 0 cap)∧w'=w.drew.alloc (.cells cs E)∧cap*sz≤cs.size):
 Calls Tryz.prog f [.slice none 0 0,.int .i64 n].toArray w fun en w'=>∃v g',en=.returned v∧VRel g' w' (domOf []) (some .ret) v (.so sz [])∧HRel g' w' []∧(∀b ow,g'.own b=some ow→b<w'.heap.size)∧Ext g w g' w':=by
 by_cases hn:n=0
 ·refine(h0 hn).mono ?_
  rintro e w' ⟨rfl,rfl⟩
  exact⟨_,g,rfl,.full _ none sz [] hz (.nil sz),hh,hbn,Ext.refl _ _⟩
 ·refine(h1 (by omega)).mono ?_
  rintro e w' ⟨cap,cs,E,rfl,rfl,hcs⟩
  refine⟨_,g.new w.heap.size 0 (some .ret),rfl,?_,⟨fun l x hx=>(by cases hx),fun l x hx=>(by cases hx),fun l x hx=>(by cases hx)⟩,fun b ow ho=>?_,?_⟩
  ·exact .own .ret ⟨w.heap.size,0,none⟩ cap sz [] cs E hz (.sl _ cap sz [] (fun _ _=>.nilIface) (fun _=>rfl) (Nat.zero_le _) (fun x hx=>by cases hx) (fun j x hx=>by cases hx) (fun j x hx=>by cases hx)) (by simp[Gh.new]) (by simp[Gh.new]) (push_new (w:={ w with drawn:=w.drawn+1 })) (by simpa using hcs)
  ·show b<(World.push { w with drawn:=w.drawn+1 } (.cells cs E (0,0))).heap.size
   rw[push_size]
   show b<w.heap.size+1
   by_cases hb:b=w.heap.size
   ·omega
   ·have:=hbn b ow (by simpa[Gh.new,hb] using ho);omega
  ·exact(Ext.drew (k:=w.drawn+1)).trans (Ext.push (w:={ w with drawn:=w.drawn+1 }) (fun b hb=>by simp[Gh.new,Nat.ne_of_lt (show b<w.heap.size from hb)]) (fun a=>frozen_push a) (fun _ _=>rfl))
def growUse_ren:Go.Shelf.Ren:=⟨fun|4=>53|n=>n,fun|22=>23|25=>49|n=>n,fun|n=>n⟩
theorem growUse:Lays8.n4 Tryz.prog growUse_ren:={
 mixed:=by kernel_rfl
 f4:=⟨Tryz.f53.name,by kernel_rfl,Tryz.func53.trans (congrArg some (by kernel_rfl))⟩
 t0:=Tryz.underlying0
 a0:=Tryz.isAgg0
 z0:=Tryz.sizeOf0
 v0:=Tryz.zeroValue0
 t3:=Tryz.underlying3
 a3:=Tryz.isAgg3
 z3:=Tryz.sizeOf3
 v3:=Tryz.zeroValue3
 t4:=Tryz.underlying4
 a4:=Tryz.isAgg4
 z4:=Tryz.sizeOf4
 v4:=Tryz.zeroValue4
 t9:=Tryz.underlying9
 a9:=Tryz.isAgg9
 z9:=Tryz.sizeOf9
 v9:=Tryz.zeroValue9
 t20:=Tryz.underlying20
 a20:=Tryz.isAgg20
 z20:=Tryz.sizeOf20
 v20:=Tryz.zeroValue20
 t22:=Tryz.underlying23
 a22:=Tryz.isAgg23
 z22:=Tryz.sizeOf23
 v22:=Tryz.zeroValue23 }
theorem growUse_spec (n:Nat) (hn:n≤100000000):AMem Tryz.prog 53 [.nilS,.p (.i .i64 n)] [] (.so 3 []) []:=by
 refine⟨⟨TK.body_of Tryz.func53 rfl (by rfl),rfl⟩,fun g w us hh hbn hlen hrel=>?_⟩
 match us,hlen with
 | [u1,u2],_=>
 have r1:=hrel 0 u1 _ rfl rfl
 have r2:=hrel 1 u2 _ rfl rfl
 cases r1
 cases r2 with
 |p _ _ _ r2=>
 cases r2
 obtain⟨i0,z,hi,hz,hz0,hz1,hz2⟩:=infoParts (show(Tryz.prog.info? 49).map (fun i=>(i.zero.map fun z=>z.cells.size,i.size,i.bytes))=some (some 3,3,32) by kernel_rfl)
 exact grow_rel 3 (by decide) g w n hh hbn (fun h=>by
  refine(Any8.slices_Grow_room growUse none 0 0 n w (by decide) (by decide) (by omega) (by omega)).mono ?_
  rintro e w' ⟨h1,h2⟩
  exact⟨h1,h2⟩) (fun h=>by
  refine(Any8.slices_Grow_grow growUse i0 z hi hz (by omega) none 0 0 n [] w (Nat.le_refl 0) (by omega) (by rw[hz2];omega) (by omega) (by simp) (fun _=>rfl) (fun a h=>by cases h)).mono ?_
  rintro e w' ⟨h1,h2⟩
  exact⟨_,_,_,h1,h2,by rw[←hz0];exact grow_size z.cells n _⟩)
def growData_ren:Go.Shelf.Ren:=⟨fun|4=>54|n=>n,fun|22=>24|25=>54|n=>n,fun|n=>n⟩
theorem growData:Lays8.n4 Tryz.prog growData_ren:={
 mixed:=by kernel_rfl
 f4:=⟨Tryz.f54.name,by kernel_rfl,Tryz.func54.trans (congrArg some (by kernel_rfl))⟩
 t0:=Tryz.underlying0
 a0:=Tryz.isAgg0
 z0:=Tryz.sizeOf0
 v0:=Tryz.zeroValue0
 t3:=Tryz.underlying3
 a3:=Tryz.isAgg3
 z3:=Tryz.sizeOf3
 v3:=Tryz.zeroValue3
 t4:=Tryz.underlying4
 a4:=Tryz.isAgg4
 z4:=Tryz.sizeOf4
 v4:=Tryz.zeroValue4
 t9:=Tryz.underlying9
 a9:=Tryz.isAgg9
 z9:=Tryz.sizeOf9
 v9:=Tryz.zeroValue9
 t20:=Tryz.underlying20
 a20:=Tryz.isAgg20
 z20:=Tryz.sizeOf20
 v20:=Tryz.zeroValue20
 t22:=Tryz.underlying24
 a22:=Tryz.isAgg24
 z22:=Tryz.sizeOf24
 v22:=Tryz.zeroValue24 }
theorem growData_spec (n:Nat) (hn:n≤100000000):AMem Tryz.prog 54 [.nilS,.p (.i .i64 n)] [] (.so 3 []) []:=by
 refine⟨⟨TK.body_of Tryz.func54 rfl (by rfl),rfl⟩,fun g w us hh hbn hlen hrel=>?_⟩
 match us,hlen with
 | [u1,u2],_=>
 have r1:=hrel 0 u1 _ rfl rfl
 have r2:=hrel 1 u2 _ rfl rfl
 cases r1
 cases r2 with
 |p _ _ _ r2=>
 cases r2
 obtain⟨i0,z,hi,hz,hz0,hz1,hz2⟩:=infoParts (show(Tryz.prog.info? 54).map (fun i=>(i.zero.map fun z=>z.cells.size,i.size,i.bytes))=some (some 3,3,64) by kernel_rfl)
 exact grow_rel 3 (by decide) g w n hh hbn (fun h=>by
  refine(Any8.slices_Grow_room growData none 0 0 n w (by decide) (by decide) (by omega) (by omega)).mono ?_
  rintro e w' ⟨h1,h2⟩
  exact⟨h1,h2⟩) (fun h=>by
  refine(Any8.slices_Grow_grow growData i0 z hi hz (by omega) none 0 0 n [] w (Nat.le_refl 0) (by omega) (by rw[hz2];omega) (by omega) (by simp) (fun _=>rfl) (fun a h=>by cases h)).mono ?_
  rintro e w' ⟨h1,h2⟩
  exact⟨_,_,_,h1,h2,by rw[←hz0];exact grow_size z.cells n _⟩)
def growTrait_ren:Go.Shelf.Ren:=⟨fun|4=>55|n=>n,fun|22=>25|25=>57|n=>n,fun|n=>n⟩
theorem growTrait:Lays8.n4 Tryz.prog growTrait_ren:={
 mixed:=by kernel_rfl
 f4:=⟨Tryz.f55.name,by kernel_rfl,Tryz.func55.trans (congrArg some (by kernel_rfl))⟩
 t0:=Tryz.underlying0
 a0:=Tryz.isAgg0
 z0:=Tryz.sizeOf0
 v0:=Tryz.zeroValue0
 t3:=Tryz.underlying3
 a3:=Tryz.isAgg3
 z3:=Tryz.sizeOf3
 v3:=Tryz.zeroValue3
 t4:=Tryz.underlying4
 a4:=Tryz.isAgg4
 z4:=Tryz.sizeOf4
 v4:=Tryz.zeroValue4
 t9:=Tryz.underlying9
 a9:=Tryz.isAgg9
 z9:=Tryz.sizeOf9
 v9:=Tryz.zeroValue9
 t20:=Tryz.underlying20
 a20:=Tryz.isAgg20
 z20:=Tryz.sizeOf20
 v20:=Tryz.zeroValue20
 t22:=Tryz.underlying25
 a22:=Tryz.isAgg25
 z22:=Tryz.sizeOf25
 v22:=Tryz.zeroValue25 }
theorem growTrait_spec (n:Nat) (hn:n≤100000000):AMem Tryz.prog 55 [.nilS,.p (.i .i64 n)] [] (.so 2 []) []:=by
 refine⟨⟨TK.body_of Tryz.func55 rfl (by rfl),rfl⟩,fun g w us hh hbn hlen hrel=>?_⟩
 match us,hlen with
 | [u1,u2],_=>
 have r1:=hrel 0 u1 _ rfl rfl
 have r2:=hrel 1 u2 _ rfl rfl
 cases r1
 cases r2 with
 |p _ _ _ r2=>
 cases r2
 obtain⟨i0,z,hi,hz,hz0,hz1,hz2⟩:=infoParts (show(Tryz.prog.info? 57).map (fun i=>(i.zero.map fun z=>z.cells.size,i.size,i.bytes))=some (some 2,2,40) by kernel_rfl)
 exact grow_rel 2 (by decide) g w n hh hbn (fun h=>by
  refine(Any8.slices_Grow_room growTrait none 0 0 n w (by decide) (by decide) (by omega) (by omega)).mono ?_
  rintro e w' ⟨h1,h2⟩
  exact⟨h1,h2⟩) (fun h=>by
  refine(Any8.slices_Grow_grow growTrait i0 z hi hz (by omega) none 0 0 n [] w (Nat.le_refl 0) (by omega) (by rw[hz2];omega) (by omega) (by simp) (fun _=>rfl) (fun a h=>by cases h)).mono ?_
  rintro e w' ⟨h1,h2⟩
  exact⟨_,_,_,h1,h2,by rw[←hz0];exact grow_size z.cells n _⟩)
def growImpl_ren:Go.Shelf.Ren:=⟨fun|4=>56|n=>n,fun|22=>26|25=>60|n=>n,fun|n=>n⟩
theorem growImpl:Lays8.n4 Tryz.prog growImpl_ren:={
 mixed:=by kernel_rfl
 f4:=⟨Tryz.f56.name,by kernel_rfl,Tryz.func56.trans (congrArg some (by kernel_rfl))⟩
 t0:=Tryz.underlying0
 a0:=Tryz.isAgg0
 z0:=Tryz.sizeOf0
 v0:=Tryz.zeroValue0
 t3:=Tryz.underlying3
 a3:=Tryz.isAgg3
 z3:=Tryz.sizeOf3
 v3:=Tryz.zeroValue3
 t4:=Tryz.underlying4
 a4:=Tryz.isAgg4
 z4:=Tryz.sizeOf4
 v4:=Tryz.zeroValue4
 t9:=Tryz.underlying9
 a9:=Tryz.isAgg9
 z9:=Tryz.sizeOf9
 v9:=Tryz.zeroValue9
 t20:=Tryz.underlying20
 a20:=Tryz.isAgg20
 z20:=Tryz.sizeOf20
 v20:=Tryz.zeroValue20
 t22:=Tryz.underlying26
 a22:=Tryz.isAgg26
 z22:=Tryz.sizeOf26
 v22:=Tryz.zeroValue26 }
theorem growImpl_spec (n:Nat) (hn:n≤100000000):AMem Tryz.prog 56 [.nilS,.p (.i .i64 n)] [] (.so 3 []) []:=by
 refine⟨⟨TK.body_of Tryz.func56 rfl (by rfl),rfl⟩,fun g w us hh hbn hlen hrel=>?_⟩
 match us,hlen with
 | [u1,u2],_=>
 have r1:=hrel 0 u1 _ rfl rfl
 have r2:=hrel 1 u2 _ rfl rfl
 cases r1
 cases r2 with
 |p _ _ _ r2=>
 cases r2
 obtain⟨i0,z,hi,hz,hz0,hz1,hz2⟩:=infoParts (show(Tryz.prog.info? 60).map (fun i=>(i.zero.map fun z=>z.cells.size,i.size,i.bytes))=some (some 3,3,56) by kernel_rfl)
 exact grow_rel 3 (by decide) g w n hh hbn (fun h=>by
  refine(Any8.slices_Grow_room growImpl none 0 0 n w (by decide) (by decide) (by omega) (by omega)).mono ?_
  rintro e w' ⟨h1,h2⟩
  exact⟨h1,h2⟩) (fun h=>by
  refine(Any8.slices_Grow_grow growImpl i0 z hi hz (by omega) none 0 0 n [] w (Nat.le_refl 0) (by omega) (by rw[hz2];omega) (by omega) (by simp) (fun _=>rfl) (fun a h=>by cases h)).mono ?_
  rintro e w' ⟨h1,h2⟩
  exact⟨_,_,_,h1,h2,by rw[←hz0];exact grow_size z.cells n _⟩)
def growFunc_ren:Go.Shelf.Ren:=⟨fun|4=>57|n=>n,fun|22=>27|25=>70|n=>n,fun|n=>n⟩
theorem growFunc:Lays8.n4 Tryz.prog growFunc_ren:={
 mixed:=by kernel_rfl
 f4:=⟨Tryz.f57.name,by kernel_rfl,Tryz.func57.trans (congrArg some (by kernel_rfl))⟩
 t0:=Tryz.underlying0
 a0:=Tryz.isAgg0
 z0:=Tryz.sizeOf0
 v0:=Tryz.zeroValue0
 t3:=Tryz.underlying3
 a3:=Tryz.isAgg3
 z3:=Tryz.sizeOf3
 v3:=Tryz.zeroValue3
 t4:=Tryz.underlying4
 a4:=Tryz.isAgg4
 z4:=Tryz.sizeOf4
 v4:=Tryz.zeroValue4
 t9:=Tryz.underlying9
 a9:=Tryz.isAgg9
 z9:=Tryz.sizeOf9
 v9:=Tryz.zeroValue9
 t20:=Tryz.underlying20
 a20:=Tryz.isAgg20
 z20:=Tryz.sizeOf20
 v20:=Tryz.zeroValue20
 t22:=Tryz.underlying27
 a22:=Tryz.isAgg27
 z22:=Tryz.sizeOf27
 v22:=Tryz.zeroValue27 }
theorem growFunc_spec (n:Nat) (hn:n≤100000000):AMem Tryz.prog 57 [.nilS,.p (.i .i64 n)] [] (.so 15 []) []:=by
 refine⟨⟨TK.body_of Tryz.func57 rfl (by rfl),rfl⟩,fun g w us hh hbn hlen hrel=>?_⟩
 match us,hlen with
 | [u1,u2],_=>
 have r1:=hrel 0 u1 _ rfl rfl
 have r2:=hrel 1 u2 _ rfl rfl
 cases r1
 cases r2 with
 |p _ _ _ r2=>
 cases r2
 obtain⟨i0,z,hi,hz,hz0,hz1,hz2⟩:=infoParts (show(Tryz.prog.info? 70).map (fun i=>(i.zero.map fun z=>z.cells.size,i.size,i.bytes))=some (some 15,15,272) by kernel_rfl)
 exact grow_rel 15 (by decide) g w n hh hbn (fun h=>by
  refine(Any8.slices_Grow_room growFunc none 0 0 n w (by decide) (by decide) (by omega) (by omega)).mono ?_
  rintro e w' ⟨h1,h2⟩
  exact⟨h1,h2⟩) (fun h=>by
  refine(Any8.slices_Grow_grow growFunc i0 z hi hz (by omega) none 0 0 n [] w (Nat.le_refl 0) (by omega) (by rw[hz2];omega) (by omega) (by simp) (fun _=>rfl) (fun a h=>by cases h)).mono ?_
  rintro e w' ⟨h1,h2⟩
  exact⟨_,_,_,h1,h2,by rw[←hz0];exact grow_size z.cells n _⟩)
def growActor_ren:Go.Shelf.Ren:=⟨fun|4=>58|n=>n,fun|22=>28|25=>73|n=>n,fun|n=>n⟩
theorem growActor:Lays8.n4 Tryz.prog growActor_ren:={
 mixed:=by kernel_rfl
 f4:=⟨Tryz.f58.name,by kernel_rfl,Tryz.func58.trans (congrArg some (by kernel_rfl))⟩
 t0:=Tryz.underlying0
 a0:=Tryz.isAgg0
 z0:=Tryz.sizeOf0
 v0:=Tryz.zeroValue0
 t3:=Tryz.underlying3
 a3:=Tryz.isAgg3
 z3:=Tryz.sizeOf3
 v3:=Tryz.zeroValue3
 t4:=Tryz.underlying4
 a4:=Tryz.isAgg4
 z4:=Tryz.sizeOf4
 v4:=Tryz.zeroValue4
 t9:=Tryz.underlying9
 a9:=Tryz.isAgg9
 z9:=Tryz.sizeOf9
 v9:=Tryz.zeroValue9
 t20:=Tryz.underlying20
 a20:=Tryz.isAgg20
 z20:=Tryz.sizeOf20
 v20:=Tryz.zeroValue20
 t22:=Tryz.underlying28
 a22:=Tryz.isAgg28
 z22:=Tryz.sizeOf28
 v22:=Tryz.zeroValue28 }
theorem growActor_spec (n:Nat) (hn:n≤100000000):AMem Tryz.prog 58 [.nilS,.p (.i .i64 n)] [] (.so 14 []) []:=by
 refine⟨⟨TK.body_of Tryz.func58 rfl (by rfl),rfl⟩,fun g w us hh hbn hlen hrel=>?_⟩
 match us,hlen with
 | [u1,u2],_=>
 have r1:=hrel 0 u1 _ rfl rfl
 have r2:=hrel 1 u2 _ rfl rfl
 cases r1
 cases r2 with
 |p _ _ _ r2=>
 cases r2
 obtain⟨i0,z,hi,hz,hz0,hz1,hz2⟩:=infoParts (show(Tryz.prog.info? 73).map (fun i=>(i.zero.map fun z=>z.cells.size,i.size,i.bytes))=some (some 14,14,248) by kernel_rfl)
 exact grow_rel 14 (by decide) g w n hh hbn (fun h=>by
  refine(Any8.slices_Grow_room growActor none 0 0 n w (by decide) (by decide) (by omega) (by omega)).mono ?_
  rintro e w' ⟨h1,h2⟩
  exact⟨h1,h2⟩) (fun h=>by
  refine(Any8.slices_Grow_grow growActor i0 z hi hz (by omega) none 0 0 n [] w (Nat.le_refl 0) (by omega) (by rw[hz2];omega) (by omega) (by simp) (fun _=>rfl) (fun a h=>by cases h)).mono ?_
  rintro e w' ⟨h1,h2⟩
  exact⟨_,_,_,h1,h2,by rw[←hz0];exact grow_size z.cells n _⟩)
end SX
open Go Go.AM Go.Proofs Go.Shelf TR TK PA
set_option maxRecDepth 100000
namespace SX
open SH SW
def lens (xss:List (List PV)):Nat:=(xss.map List.length).sum
theorem lens_take (xss:List (List PV)) (k:Nat) {x:List PV} (h:xss[k]?=some x):lens (xss.take (k+1))=lens (xss.take k)+x.length:=by
 unfold lens
 rw[List.take_add_one,h]
 simp
theorem lens_le (xss:List (List PV)) (k:Nat):lens (xss.take k)≤lens xss:=by
 unfold lens
 conv=>rhs;rw[←List.take_append_drop k xss]
 rw[List.map_append,List.sum_append]
 omega
theorem flat_len (xss:List (List PV)):xss.flatten.length=lens xss:=by unfold lens;rw[List.length_flatten]
noncomputable abbrev tyUse:Nat→Option TI:=hint (tyOf Tryz.prog) 23 [9999]
theorem tyUse_ok:TyOK Tryz.prog tyUse:=(tyOf_ok Tryz.prog).hint 23 [9999]
theorem concatUse_spec (xss:List (List PV)) (hn:xss.length≤1000) (hx:lens xss≤10000000):AMem Tryz.prog 14 [.p (.sl 1 (xss.map (.sl 3)))] [] (.p (.sl 3 xss.flatten)) []:=by
 have hG:=growUse_spec (lens xss) (by omega)
 refine AMem.intro tyUse_ok hmix Tryz.func14 rfl (by rfl) (by kernel_rfl) (by show 1≤_;decide) rfl ?_
 conv=>whnf
 refine loopS tyUse_ok hmix (by kernel_rfl) xss.length [0,2,3,9,10,11] [] (fun k (_:Unit)=>[.p (.sl 1 (xss.map (.sl 3))),.nilS,.p (.i .i64 (lens (xss.take k))),.p (.sl 1 (xss.map (.sl 3))),.p (.i .i64 (xss.map (PV.sl 3)).length),.p (.i .i64 (ix k))]) (fun _ _=>[]) (fun _ _=>True) () ⟨rfl,rfl,rfl,rfl⟩ trivial ?_
 intro k _ hk _
 conv=>whnf
 refine asplit ?_ ?_<;>intro h1<;>conv=>whnf
 ·have hk1:=ix_tt h1 (by simp) hk (by omega)
  obtain⟨b,hb1⟩:∃b,xss[k]?=some b:=⟨_,List.getElem?_eq_getElem hk1⟩
  have hl1:=lens_take xss k hb1
  have hl2:=lens_le xss (k+1)
  refine aidxk (x:=PV.sl 3 b) (by simp[hb1]) (by omega) ?_
  conv=>whnf
  have hwr:IntKind.i64.wrap ((lens (xss.take k):Int)+(b.length:Int))=(lens (xss.take (k+1)):Int):=(Go.AM.wrap64 (x:=(lens (xss.take k):Int)+(b.length:Int)) (by omega) (by omega)).trans (by omega)
  rw[hwr,decide_eq_false (show ¬((lens (xss.take (k+1)):Int)<0) by omega)]
  conv=>whnf
  exact⟨hk1,(),⟨rfl,rfl,rfl,rfl⟩,trivial⟩
 ·have hk1:=ix_ff h1 (by simp) hk (by omega)
  subst hk1
  rw[List.take_length]
  refine amc [] 500 hG ?_
  conv=>whnf
  refine loopS tyUse_ok hmix (by kernel_rfl) xss.length [0,2,6,25,26,27] [] (fun k (_:Unit)=>[.p (.sl 1 (xss.map (.sl 3))),.nilS,.so 3 (xss.take k).flatten,.p (.sl 1 (xss.map (.sl 3))),.p (.i .i64 (xss.map (PV.sl 3)).length),.p (.i .i64 (ix k))]) (fun _ _=>[]) (fun _ _=>True) () ⟨rfl,rfl,rfl,rfl⟩ trivial ?_
  intro k _ hk _
  conv=>whnf
  refine asplit ?_ ?_<;>intro h2<;>conv=>whnf
  ·have hk1:=ix_tt h2 (by simp) hk (by omega)
   obtain⟨b,hb1⟩:∃b,xss[k]?=some b:=⟨_,List.getElem?_eq_getElem hk1⟩
   have hl1:=lens_take xss k hb1
   have hl2:=lens_le xss (k+1)
   have hfl:(xss.take (k+1)).flatten=(xss.take k).flatten++b:=by rw[List.take_add_one,hb1];simp
   have hfn:=flat_len (xss.take k)
   refine aidxk (x:=PV.sl 3 b) (by simp[hb1]) (by omega) ?_
   conv=>whnf
   refine aneed (by show(_+_)*32≤_;omega) ?_
   conv=>whnf
   rw[hfl]
   exact⟨hk1,(),⟨rfl,rfl,rfl,rfl⟩,trivial⟩
  ·have hk1:=ix_ff h2 (by simp) hk (by omega)
   subst hk1
   rw[List.take_length]
   conv=>whnf
   exact⟨.inr rfl,trivial⟩
noncomputable abbrev tyData:Nat→Option TI:=hint (tyOf Tryz.prog) 24 [9999]
theorem tyData_ok:TyOK Tryz.prog tyData:=(tyOf_ok Tryz.prog).hint 24 [9999]
theorem concatData_spec (xss:List (List PV)) (hn:xss.length≤1000) (hx:lens xss≤10000000):AMem Tryz.prog 15 [.p (.sl 1 (xss.map (.sl 3)))] [] (.p (.sl 3 xss.flatten)) []:=by
 have hG:=growData_spec (lens xss) (by omega)
 refine AMem.intro tyData_ok hmix Tryz.func15 rfl (by rfl) (by kernel_rfl) (by show 1≤_;decide) rfl ?_
 conv=>whnf
 refine loopS tyData_ok hmix (by kernel_rfl) xss.length [0,2,3,9,10,11] [] (fun k (_:Unit)=>[.p (.sl 1 (xss.map (.sl 3))),.nilS,.p (.i .i64 (lens (xss.take k))),.p (.sl 1 (xss.map (.sl 3))),.p (.i .i64 (xss.map (PV.sl 3)).length),.p (.i .i64 (ix k))]) (fun _ _=>[]) (fun _ _=>True) () ⟨rfl,rfl,rfl,rfl⟩ trivial ?_
 intro k _ hk _
 conv=>whnf
 refine asplit ?_ ?_<;>intro h1<;>conv=>whnf
 ·have hk1:=ix_tt h1 (by simp) hk (by omega)
  obtain⟨b,hb1⟩:∃b,xss[k]?=some b:=⟨_,List.getElem?_eq_getElem hk1⟩
  have hl1:=lens_take xss k hb1
  have hl2:=lens_le xss (k+1)
  refine aidxk (x:=PV.sl 3 b) (by simp[hb1]) (by omega) ?_
  conv=>whnf
  have hwr:IntKind.i64.wrap ((lens (xss.take k):Int)+(b.length:Int))=(lens (xss.take (k+1)):Int):=(Go.AM.wrap64 (x:=(lens (xss.take k):Int)+(b.length:Int)) (by omega) (by omega)).trans (by omega)
  rw[hwr,decide_eq_false (show ¬((lens (xss.take (k+1)):Int)<0) by omega)]
  conv=>whnf
  exact⟨hk1,(),⟨rfl,rfl,rfl,rfl⟩,trivial⟩
 ·have hk1:=ix_ff h1 (by simp) hk (by omega)
  subst hk1
  rw[List.take_length]
  refine amc [] 500 hG ?_
  conv=>whnf
  refine loopS tyData_ok hmix (by kernel_rfl) xss.length [0,2,6,25,26,27] [] (fun k (_:Unit)=>[.p (.sl 1 (xss.map (.sl 3))),.nilS,.so 3 (xss.take k).flatten,.p (.sl 1 (xss.map (.sl 3))),.p (.i .i64 (xss.map (PV.sl 3)).length),.p (.i .i64 (ix k))]) (fun _ _=>[]) (fun _ _=>True) () ⟨rfl,rfl,rfl,rfl⟩ trivial ?_
  intro k _ hk _
  conv=>whnf
  refine asplit ?_ ?_<;>intro h2<;>conv=>whnf
  ·have hk1:=ix_tt h2 (by simp) hk (by omega)
   obtain⟨b,hb1⟩:∃b,xss[k]?=some b:=⟨_,List.getElem?_eq_getElem hk1⟩
   have hl1:=lens_take xss k hb1
   have hl2:=lens_le xss (k+1)
   have hfl:(xss.take (k+1)).flatten=(xss.take k).flatten++b:=by rw[List.take_add_one,hb1];simp
   have hfn:=flat_len (xss.take k)
   refine aidxk (x:=PV.sl 3 b) (by simp[hb1]) (by omega) ?_
   conv=>whnf
   refine aneed (by show(_+_)*64≤_;omega) ?_
   conv=>whnf
   rw[hfl]
   exact⟨hk1,(),⟨rfl,rfl,rfl,rfl⟩,trivial⟩
  ·have hk1:=ix_ff h2 (by simp) hk (by omega)
   subst hk1
   rw[List.take_length]
   conv=>whnf
   exact⟨.inr rfl,trivial⟩
noncomputable abbrev tyTrait:Nat→Option TI:=hint (tyOf Tryz.prog) 25 [9999]
theorem tyTrait_ok:TyOK Tryz.prog tyTrait:=(tyOf_ok Tryz.prog).hint 25 [9999]
theorem concatTrait_spec (xss:List (List PV)) (hn:xss.length≤1000) (hx:lens xss≤10000000):AMem Tryz.prog 16 [.p (.sl 1 (xss.map (.sl 2)))] [] (.p (.sl 2 xss.flatten)) []:=by
 have hG:=growTrait_spec (lens xss) (by omega)
 refine AMem.intro tyTrait_ok hmix Tryz.func16 rfl (by rfl) (by kernel_rfl) (by show 1≤_;decide) rfl ?_
 conv=>whnf
 refine loopS tyTrait_ok hmix (by kernel_rfl) xss.length [0,2,3,9,10,11] [] (fun k (_:Unit)=>[.p (.sl 1 (xss.map (.sl 2))),.nilS,.p (.i .i64 (lens (xss.take k))),.p (.sl 1 (xss.map (.sl 2))),.p (.i .i64 (xss.map (PV.sl 2)).length),.p (.i .i64 (ix k))]) (fun _ _=>[]) (fun _ _=>True) () ⟨rfl,rfl,rfl,rfl⟩ trivial ?_
 intro k _ hk _
 conv=>whnf
 refine asplit ?_ ?_<;>intro h1<;>conv=>whnf
 ·have hk1:=ix_tt h1 (by simp) hk (by omega)
  obtain⟨b,hb1⟩:∃b,xss[k]?=some b:=⟨_,List.getElem?_eq_getElem hk1⟩
  have hl1:=lens_take xss k hb1
  have hl2:=lens_le xss (k+1)
  refine aidxk (x:=PV.sl 2 b) (by simp[hb1]) (by omega) ?_
  conv=>whnf
  have hwr:IntKind.i64.wrap ((lens (xss.take k):Int)+(b.length:Int))=(lens (xss.take (k+1)):Int):=(Go.AM.wrap64 (x:=(lens (xss.take k):Int)+(b.length:Int)) (by omega) (by omega)).trans (by omega)
  rw[hwr,decide_eq_false (show ¬((lens (xss.take (k+1)):Int)<0) by omega)]
  conv=>whnf
  exact⟨hk1,(),⟨rfl,rfl,rfl,rfl⟩,trivial⟩
 ·have hk1:=ix_ff h1 (by simp) hk (by omega)
  subst hk1
  rw[List.take_length]
  refine amc [] 500 hG ?_
  conv=>whnf
  refine loopS tyTrait_ok hmix (by kernel_rfl) xss.length [0,2,6,25,26,27] [] (fun k (_:Unit)=>[.p (.sl 1 (xss.map (.sl 2))),.nilS,.so 2 (xss.take k).flatten,.p (.sl 1 (xss.map (.sl 2))),.p (.i .i64 (xss.map (PV.sl 2)).length),.p (.i .i64 (ix k))]) (fun _ _=>[]) (fun _ _=>True) () ⟨rfl,rfl,rfl,rfl⟩ trivial ?_
  intro k _ hk _
  conv=>whnf
  refine asplit ?_ ?_<;>intro h2<;>conv=>whnf
  ·have hk1:=ix_tt h2 (by simp) hk (by omega)
   obtain⟨b,hb1⟩:∃b,xss[k]?=some b:=⟨_,List.getElem?_eq_getElem hk1⟩
   have hl1:=lens_take xss k hb1
   have hl2:=lens_le xss (k+1)
   have hfl:(xss.take (k+1)).flatten=(xss.take k).flatten++b:=by rw[List.take_add_one,hb1];simp
   have hfn:=flat_len (xss.take k)
   refine aidxk (x:=PV.sl 2 b) (by simp[hb1]) (by omega) ?_
   conv=>whnf
   refine aneed (by show(_+_)*40≤_;omega) ?_
   conv=>whnf
   rw[hfl]
   exact⟨hk1,(),⟨rfl,rfl,rfl,rfl⟩,trivial⟩
  ·have hk1:=ix_ff h2 (by simp) hk (by omega)
   subst hk1
   rw[List.take_length]
   conv=>whnf
   exact⟨.inr rfl,trivial⟩
noncomputable abbrev tyImpl:Nat→Option TI:=hint (tyOf Tryz.prog) 26 [9999]
theorem tyImpl_ok:TyOK Tryz.prog tyImpl:=(tyOf_ok Tryz.prog).hint 26 [9999]
theorem concatImpl_spec (xss:List (List PV)) (hn:xss.length≤1000) (hx:lens xss≤10000000):AMem Tryz.prog 17 [.p (.sl 1 (xss.map (.sl 3)))] [] (.p (.sl 3 xss.flatten)) []:=by
 have hG:=growImpl_spec (lens xss) (by omega)
 refine AMem.intro tyImpl_ok hmix Tryz.func17 rfl (by rfl) (by kernel_rfl) (by show 1≤_;decide) rfl ?_
 conv=>whnf
 refine loopS tyImpl_ok hmix (by kernel_rfl) xss.length [0,2,3,9,10,11] [] (fun k (_:Unit)=>[.p (.sl 1 (xss.map (.sl 3))),.nilS,.p (.i .i64 (lens (xss.take k))),.p (.sl 1 (xss.map (.sl 3))),.p (.i .i64 (xss.map (PV.sl 3)).length),.p (.i .i64 (ix k))]) (fun _ _=>[]) (fun _ _=>True) () ⟨rfl,rfl,rfl,rfl⟩ trivial ?_
 intro k _ hk _
 conv=>whnf
 refine asplit ?_ ?_<;>intro h1<;>conv=>whnf
 ·have hk1:=ix_tt h1 (by simp) hk (by omega)
  obtain⟨b,hb1⟩:∃b,xss[k]?=some b:=⟨_,List.getElem?_eq_getElem hk1⟩
  have hl1:=lens_take xss k hb1
  have hl2:=lens_le xss (k+1)
  refine aidxk (x:=PV.sl 3 b) (by simp[hb1]) (by omega) ?_
  conv=>whnf
  have hwr:IntKind.i64.wrap ((lens (xss.take k):Int)+(b.length:Int))=(lens (xss.take (k+1)):Int):=(Go.AM.wrap64 (x:=(lens (xss.take k):Int)+(b.length:Int)) (by omega) (by omega)).trans (by omega)
  rw[hwr,decide_eq_false (show ¬((lens (xss.take (k+1)):Int)<0) by omega)]
  conv=>whnf
  exact⟨hk1,(),⟨rfl,rfl,rfl,rfl⟩,trivial⟩
 ·have hk1:=ix_ff h1 (by simp) hk (by omega)
  subst hk1
  rw[List.take_length]
  refine amc [] 500 hG ?_
  conv=>whnf
  refine loopS tyImpl_ok hmix (by kernel_rfl) xss.length [0,2,6,25,26,27] [] (fun k (_:Unit)=>[.p (.sl 1 (xss.map (.sl 3))),.nilS,.so 3 (xss.take k).flatten,.p (.sl 1 (xss.map (.sl 3))),.p (.i .i64 (xss.map (PV.sl 3)).length),.p (.i .i64 (ix k))]) (fun _ _=>[]) (fun _ _=>True) () ⟨rfl,rfl,rfl,rfl⟩ trivial ?_
  intro k _ hk _
  conv=>whnf
  refine asplit ?_ ?_<;>intro h2<;>conv=>whnf
  ·have hk1:=ix_tt h2 (by simp) hk (by omega)
   obtain⟨b,hb1⟩:∃b,xss[k]?=some b:=⟨_,List.getElem?_eq_getElem hk1⟩
   have hl1:=lens_take xss k hb1
   have hl2:=lens_le xss (k+1)
   have hfl:(xss.take (k+1)).flatten=(xss.take k).flatten++b:=by rw[List.take_add_one,hb1];simp
   have hfn:=flat_len (xss.take k)
   refine aidxk (x:=PV.sl 3 b) (by simp[hb1]) (by omega) ?_
   conv=>whnf
   refine aneed (by show(_+_)*56≤_;omega) ?_
   conv=>whnf
   rw[hfl]
   exact⟨hk1,(),⟨rfl,rfl,rfl,rfl⟩,trivial⟩
  ·have hk1:=ix_ff h2 (by simp) hk (by omega)
   subst hk1
   rw[List.take_length]
   conv=>whnf
   exact⟨.inr rfl,trivial⟩
noncomputable abbrev tyFunc:Nat→Option TI:=hint (tyOf Tryz.prog) 27 [9999]
theorem tyFunc_ok:TyOK Tryz.prog tyFunc:=(tyOf_ok Tryz.prog).hint 27 [9999]
theorem concatFunc_spec (xss:List (List PV)) (hn:xss.length≤1000) (hx:lens xss≤10000000):AMem Tryz.prog 18 [.p (.sl 1 (xss.map (.sl 15)))] [] (.p (.sl 15 xss.flatten)) []:=by
 have hG:=growFunc_spec (lens xss) (by omega)
 refine AMem.intro tyFunc_ok hmix Tryz.func18 rfl (by rfl) (by kernel_rfl) (by show 1≤_;decide) rfl ?_
 conv=>whnf
 refine loopS tyFunc_ok hmix (by kernel_rfl) xss.length [0,2,3,9,10,11] [] (fun k (_:Unit)=>[.p (.sl 1 (xss.map (.sl 15))),.nilS,.p (.i .i64 (lens (xss.take k))),.p (.sl 1 (xss.map (.sl 15))),.p (.i .i64 (xss.map (PV.sl 15)).length),.p (.i .i64 (ix k))]) (fun _ _=>[]) (fun _ _=>True) () ⟨rfl,rfl,rfl,rfl⟩ trivial ?_
 intro k _ hk _
 conv=>whnf
 refine asplit ?_ ?_<;>intro h1<;>conv=>whnf
 ·have hk1:=ix_tt h1 (by simp) hk (by omega)
  obtain⟨b,hb1⟩:∃b,xss[k]?=some b:=⟨_,List.getElem?_eq_getElem hk1⟩
  have hl1:=lens_take xss k hb1
  have hl2:=lens_le xss (k+1)
  refine aidxk (x:=PV.sl 15 b) (by simp[hb1]) (by omega) ?_
  conv=>whnf
  have hwr:IntKind.i64.wrap ((lens (xss.take k):Int)+(b.length:Int))=(lens (xss.take (k+1)):Int):=(Go.AM.wrap64 (x:=(lens (xss.take k):Int)+(b.length:Int)) (by omega) (by omega)).trans (by omega)
  rw[hwr,decide_eq_false (show ¬((lens (xss.take (k+1)):Int)<0) by omega)]
  conv=>whnf
  exact⟨hk1,(),⟨rfl,rfl,rfl,rfl⟩,trivial⟩
 ·have hk1:=ix_ff h1 (by simp) hk (by omega)
  subst hk1
  rw[List.take_length]
  refine amc [] 500 hG ?_
  conv=>whnf
  refine loopS tyFunc_ok hmix (by kernel_rfl) xss.length [0,2,6,25,26,27] [] (fun k (_:Unit)=>[.p (.sl 1 (xss.map (.sl 15))),.nilS,.so 15 (xss.take k).flatten,.p (.sl 1 (xss.map (.sl 15))),.p (.i .i64 (xss.map (PV.sl 15)).length),.p (.i .i64 (ix k))]) (fun _ _=>[]) (fun _ _=>True) () ⟨rfl,rfl,rfl,rfl⟩ trivial ?_
  intro k _ hk _
  conv=>whnf
  refine asplit ?_ ?_<;>intro h2<;>conv=>whnf
  ·have hk1:=ix_tt h2 (by simp) hk (by omega)
   obtain⟨b,hb1⟩:∃b,xss[k]?=some b:=⟨_,List.getElem?_eq_getElem hk1⟩
   have hl1:=lens_take xss k hb1
   have hl2:=lens_le xss (k+1)
   have hfl:(xss.take (k+1)).flatten=(xss.take k).flatten++b:=by rw[List.take_add_one,hb1];simp
   have hfn:=flat_len (xss.take k)
   refine aidxk (x:=PV.sl 15 b) (by simp[hb1]) (by omega) ?_
   conv=>whnf
   refine aneed (by show(_+_)*272≤_;omega) ?_
   conv=>whnf
   rw[hfl]
   exact⟨hk1,(),⟨rfl,rfl,rfl,rfl⟩,trivial⟩
  ·have hk1:=ix_ff h2 (by simp) hk (by omega)
   subst hk1
   rw[List.take_length]
   conv=>whnf
   exact⟨.inr rfl,trivial⟩
noncomputable abbrev tyActor:Nat→Option TI:=hint (tyOf Tryz.prog) 28 [9999]
theorem tyActor_ok:TyOK Tryz.prog tyActor:=(tyOf_ok Tryz.prog).hint 28 [9999]
theorem concatActor_spec (xss:List (List PV)) (hn:xss.length≤1000) (hx:lens xss≤10000000):AMem Tryz.prog 19 [.p (.sl 1 (xss.map (.sl 14)))] [] (.p (.sl 14 xss.flatten)) []:=by
 have hG:=growActor_spec (lens xss) (by omega)
 refine AMem.intro tyActor_ok hmix Tryz.func19 rfl (by rfl) (by kernel_rfl) (by show 1≤_;decide) rfl ?_
 conv=>whnf
 refine loopS tyActor_ok hmix (by kernel_rfl) xss.length [0,2,3,9,10,11] [] (fun k (_:Unit)=>[.p (.sl 1 (xss.map (.sl 14))),.nilS,.p (.i .i64 (lens (xss.take k))),.p (.sl 1 (xss.map (.sl 14))),.p (.i .i64 (xss.map (PV.sl 14)).length),.p (.i .i64 (ix k))]) (fun _ _=>[]) (fun _ _=>True) () ⟨rfl,rfl,rfl,rfl⟩ trivial ?_
 intro k _ hk _
 conv=>whnf
 refine asplit ?_ ?_<;>intro h1<;>conv=>whnf
 ·have hk1:=ix_tt h1 (by simp) hk (by omega)
  obtain⟨b,hb1⟩:∃b,xss[k]?=some b:=⟨_,List.getElem?_eq_getElem hk1⟩
  have hl1:=lens_take xss k hb1
  have hl2:=lens_le xss (k+1)
  refine aidxk (x:=PV.sl 14 b) (by simp[hb1]) (by omega) ?_
  conv=>whnf
  have hwr:IntKind.i64.wrap ((lens (xss.take k):Int)+(b.length:Int))=(lens (xss.take (k+1)):Int):=(Go.AM.wrap64 (x:=(lens (xss.take k):Int)+(b.length:Int)) (by omega) (by omega)).trans (by omega)
  rw[hwr,decide_eq_false (show ¬((lens (xss.take (k+1)):Int)<0) by omega)]
  conv=>whnf
  exact⟨hk1,(),⟨rfl,rfl,rfl,rfl⟩,trivial⟩
 ·have hk1:=ix_ff h1 (by simp) hk (by omega)
  subst hk1
  rw[List.take_length]
  refine amc [] 500 hG ?_
  conv=>whnf
  refine loopS tyActor_ok hmix (by kernel_rfl) xss.length [0,2,6,25,26,27] [] (fun k (_:Unit)=>[.p (.sl 1 (xss.map (.sl 14))),.nilS,.so 14 (xss.take k).flatten,.p (.sl 1 (xss.map (.sl 14))),.p (.i .i64 (xss.map (PV.sl 14)).length),.p (.i .i64 (ix k))]) (fun _ _=>[]) (fun _ _=>True) () ⟨rfl,rfl,rfl,rfl⟩ trivial ?_
  intro k _ hk _
  conv=>whnf
  refine asplit ?_ ?_<;>intro h2<;>conv=>whnf
  ·have hk1:=ix_tt h2 (by simp) hk (by omega)
   obtain⟨b,hb1⟩:∃b,xss[k]?=some b:=⟨_,List.getElem?_eq_getElem hk1⟩
   have hl1:=lens_take xss k hb1
   have hl2:=lens_le xss (k+1)
   have hfl:(xss.take (k+1)).flatten=(xss.take k).flatten++b:=by rw[List.take_add_one,hb1];simp
   have hfn:=flat_len (xss.take k)
   refine aidxk (x:=PV.sl 14 b) (by simp[hb1]) (by omega) ?_
   conv=>whnf
   refine aneed (by show(_+_)*248≤_;omega) ?_
   conv=>whnf
   rw[hfl]
   exact⟨hk1,(),⟨rfl,rfl,rfl,rfl⟩,trivial⟩
  ·have hk1:=ix_ff h2 (by simp) hk (by omega)
   subst hk1
   rw[List.take_length]
   conv=>whnf
   exact⟨.inr rfl,trivial⟩
theorem catUse_spec (a b:List LUse) (ha:a.length≤1048576) (hb:b.length≤1048576):AMem Tryz.prog 14 [.p (.sl 1 [.sl 3 (a.map elUse),.sl 3 (b.map elUse)])] [] (.p (.sl 3 ((a++b).map elUse))) []:=by
 have:=concatUse_spec [a.map elUse,b.map elUse] (by simp) (by simp[lens];omega)
 simpa using this
theorem catData_spec (a b:List LDt) (ha:a.length≤1048576) (hb:b.length≤1048576):AMem Tryz.prog 15 [.p (.sl 1 [.sl 3 (a.map elDt),.sl 3 (b.map elDt)])] [] (.p (.sl 3 ((a++b).map elDt))) []:=by
 have:=concatData_spec [a.map elDt,b.map elDt] (by simp) (by simp[lens];omega)
 simpa using this
theorem catTrait_spec (a b:List LTr) (ha:a.length≤1048576) (hb:b.length≤1048576):AMem Tryz.prog 16 [.p (.sl 1 [.sl 2 (a.map elTr),.sl 2 (b.map elTr)])] [] (.p (.sl 2 ((a++b).map elTr))) []:=by
 have:=concatTrait_spec [a.map elTr,b.map elTr] (by simp) (by simp[lens];omega)
 simpa using this
theorem catImpl_spec (a b:List LIm) (ha:a.length≤1048576) (hb:b.length≤1048576):AMem Tryz.prog 17 [.p (.sl 1 [.sl 3 (a.map elIm),.sl 3 (b.map elIm)])] [] (.p (.sl 3 ((a++b).map elIm))) []:=by
 have:=concatImpl_spec [a.map elIm,b.map elIm] (by simp) (by simp[lens];omega)
 simpa using this
theorem catFunc_spec (a b:List LFu) (ha:a.length≤1048576) (hb:b.length≤1048576):AMem Tryz.prog 18 [.p (.sl 1 [.sl 15 (a.map elFu),.sl 15 (b.map elFu)])] [] (.p (.sl 15 ((a++b).map elFu))) []:=by
 have:=concatFunc_spec [a.map elFu,b.map elFu] (by simp) (by simp[lens];omega)
 simpa using this
theorem catActor_spec (a b:List LAc) (ha:a.length≤1048576) (hb:b.length≤1048576):AMem Tryz.prog 19 [.p (.sl 1 [.sl 14 (a.map elAc),.sl 14 (b.map elAc)])] [] (.p (.sl 14 ((a++b).map elAc))) []:=by
 have:=concatActor_spec [a.map elAc,b.map elAc] (by simp) (by simp[lens];omega)
 simpa using this
end SX
open Go Go.AM Go.Proofs Go.Shelf TR TK PA
set_option maxRecDepth 100000
namespace SX
open SH SW
def withN (p q:LPg):LPg:=⟨p.name,p.ver,q.uses,q.datas,q.traits,q.impls,q.funcs,q.actors⟩
def headP (p:LPg):LPg:=⟨p.name,p.ver,[],[],[],[],[],[]⟩
def bothP (p q:LPg):LPg:=⟨p.name,p.ver,p.uses++q.uses,p.datas++q.datas,p.traits++q.traits,p.impls++q.impls,p.funcs++q.funcs,p.actors++q.actors⟩
def LenPg (p:LPg):Prop:=p.uses.length≤1048576∧p.datas.length≤1048576∧p.traits.length≤1048576∧p.impls.length≤1048576∧p.funcs.length≤1048576∧p.actors.length≤1048576
set_option maxHeartbeats 4000000 in
theorem joined_walk (tab:List Value) (ev:Value) (p q:LPg) (s t hd:ByteArray) (e1 e2 e3:Int) (hs:s.size≤4000) (ht:t.size≤4000) (hhd:hd.size≤4000)
 (lp:LenPg p)
 (lq:LenPg q)
 (h0:AMem Tryz.prog 7 [] (hE ev) (.p (.b true)) (hE ev))
 (h1:AMem Tryz.prog 12 [.p (elPg p)] (hW tab) (.tup [.p (.s s),.p (.i .i64 e1)]) (hW tab))
 (h2:AMem Tryz.prog 12 [.p (elPg (withN p q))] (hW tab) (.tup [.p (.s t),.p (.i .i64 e2)]) (hW tab))
 (h3:AMem Tryz.prog 12 [.p (elPg (headP p))] (hW tab) (.tup [.p (.s hd),.p (.i .i64 e3)]) (hW tab))
 (hr:e1=0→e2=0→e3=0→hd.size≤t.size→s.size+t.size≤4000+hd.size→∃(x:LPg) (a h r:Int),AMem Tryz.prog 8 [.p (.s (s++t.extract hd.size t.size))] (hE ev) (vParse (x,a,h)) (hE ev)∧APure Tryz.prog 20 [.p (elPg (bothP p q))] (.p (.i .i64 r))∧
   (((r != 0)=true∧h=r)∨(r=0∧h=0∧APure Tryz.prog 13 [.p (elPg x),.p (elPg (bothP p q))] (.p (.b true))))):
 AMem Tryz.prog 6 [.p (elPg p),.p (elPg q)] (glob2H 0 tab 2 [ev]) (.p (.b true)) (glob2H 0 tab 2 [ev]):=by
 obtain⟨p1,p2,p3,p4,p5,p6⟩:=lp
 obtain⟨q1,q2,q3,q4,q5,q6⟩:=lq
 unfold hE hW glob2H at *
 refine AMem.intro (tyOf_ok Tryz.prog) hmix Tryz.func6 rfl (by rfl) (by kernel_rfl) (by show 2≤_;decide) rfl ?_
 conv=>whnf
 refine amc [1000000001] 500 h0 ?_
 conv=>whnf
 refine aneed (by kernel_rfl) ?_
 conv=>whnf
 refine amc [1000000000] 600 h1 ?_
 conv=>whnf
 refine amc [1000000000] 700 h2 ?_
 conv=>whnf
 refine amc [1000000000] 800 h3 ?_
 conv=>whnf
 cases b1:(e1 != 0)
 rotate_left
 ·conv=>whnf
  exact⟨.inl rfl,⟨rfl,rfl⟩,⟨rfl,rfl⟩,trivial⟩
 conv=>whnf
 cases b2:(e2 != 0)
 rotate_left
 ·conv=>whnf
  exact⟨.inl rfl,⟨rfl,rfl⟩,⟨rfl,rfl⟩,trivial⟩
 conv=>whnf
 cases b3:(e3 != 0)
 rotate_left
 ·conv=>whnf
  exact⟨.inl rfl,⟨rfl,rfl⟩,⟨rfl,rfl⟩,trivial⟩
 conv=>whnf
 cases b4:decide ((t.size:Int)<hd.size)
 rotate_left
 ·conv=>whnf
  exact⟨.inl rfl,⟨rfl,rfl⟩,⟨rfl,rfl⟩,trivial⟩
 conv=>whnf
 have hlt:hd.size≤t.size:=by have:=of_decide_eq_false b4;omega
 have hw1:IntKind.i64.wrap ((s.size:Int)+(t.size:Int))=(s.size:Int)+(t.size:Int):=Go.AM.wrap64 (by omega) (by omega)
 have hw2:IntKind.i64.wrap ((s.size:Int)+(t.size:Int)-(hd.size:Int))=(s.size:Int)+(t.size:Int)-(hd.size:Int):=Go.AM.wrap64 (by omega) (by omega)
 rw[hw1,hw2]
 cases b5:decide ((s.size:Int)+(t.size:Int)-(hd.size:Int)>4000)
 rotate_left
 ·conv=>whnf
  exact⟨.inl rfl,⟨rfl,rfl⟩,⟨rfl,rfl⟩,trivial⟩
 obtain⟨x,a,h,r,k1,k2,k3⟩:=hr (by simpa using b1) (by simpa using b2) (by simpa using b3) hlt (by have:=of_decide_eq_false b5;omega)
 conv=>whnf
 refine amc [] 900 (catUse_spec p.uses q.uses (by omega) (by omega)) ?_
 conv=>whnf
 refine amc [] 1000 (catData_spec p.datas q.datas (by omega) (by omega)) ?_
 conv=>whnf
 refine amc [] 1100 (catTrait_spec p.traits q.traits (by omega) (by omega)) ?_
 conv=>whnf
 refine amc [] 1200 (catImpl_spec p.impls q.impls (by omega) (by omega)) ?_
 conv=>whnf
 refine amc [] 1300 (catFunc_spec p.funcs q.funcs (by omega) (by omega)) ?_
 conv=>whnf
 refine amc [] 1400 (catActor_spec p.actors q.actors (by omega) (by omega)) ?_
 conv=>whnf
 refine⟨⟨by omega,by omega,Int.le_refl _⟩,?_⟩
 conv=>whnf
 refine aneed (by have:(t.extract hd.size t.size).size≤t.size:=(by rw[ByteArray.size_extract];omega);exact Nat.le_trans (Nat.add_le_add hs (Nat.le_trans this ht)) (by decide)) ?_
 conv=>whnf
 refine amc [1000000001] 1500 k1 ?_
 conv=>whnf
 refine apc k2 ?_
 conv=>whnf
 rcases k3 with⟨r1,rfl⟩|⟨rfl,rfl,k3⟩
 ·refine ast r1 ?_
  conv=>whnf
  exact⟨.inl (congrArg (fun b=>AV.p (PV.b b)) (beq_self_eq_true _)),⟨rfl,rfl⟩,⟨rfl,rfl⟩,trivial⟩
 ·conv=>whnf
  refine apc k3 ?_
  conv=>whnf
  conv=>whnf
  exact⟨.inl rfl,⟨rfl,rfl⟩,⟨rfl,rfl⟩,trivial⟩
end SX
open Go Go.AM Go.Proofs TR TK PA
set_option maxRecDepth 100000
namespace SX
open SH SW
theorem fold_on (p q:LPg):(decls q).foldl addD p=bothP p q:=by
 obtain⟨nm,ver,us,ds,ts,is,fs,acs⟩:=q
 unfold decls bothP
 simp only[List.foldl_append]
 have hu:∀(l:List LUse) (p:LPg),(l.map Dc.use).foldl addD p={ p with uses:=p.uses++l }:=by
  intro l
  induction l with
  |nil=>intro p;simp
  |cons x r ih=>intro p;rw[List.map_cons,List.foldl_cons,ih];simp[addD]
 have h2:∀(l:List LDt) (p:LPg),(l.map Dc.data).foldl addD p={ p with datas:=p.datas++l }:=by
  intro l
  induction l with
  |nil=>intro p;simp
  |cons x r ih=>intro p;rw[List.map_cons,List.foldl_cons,ih];simp[addD]
 have h3:∀(l:List LTr) (p:LPg),(l.map Dc.trait).foldl addD p={ p with traits:=p.traits++l }:=by
  intro l
  induction l with
  |nil=>intro p;simp
  |cons x r ih=>intro p;rw[List.map_cons,List.foldl_cons,ih];simp[addD]
 have h4:∀(l:List LIm) (p:LPg),(l.map Dc.impl).foldl addD p={ p with impls:=p.impls++l }:=by
  intro l
  induction l with
  |nil=>intro p;simp
  |cons x r ih=>intro p;rw[List.map_cons,List.foldl_cons,ih];simp[addD]
 have h5:∀(l:List LFu) (p:LPg),(l.map Dc.func).foldl addD p={ p with funcs:=p.funcs++l }:=by
  intro l
  induction l with
  |nil=>intro p;simp
  |cons x r ih=>intro p;rw[List.map_cons,List.foldl_cons,ih];simp[addD]
 have h6:∀(l:List LAc) (p:LPg),(l.map Dc.actor).foldl addD p={ p with actors:=p.actors++l }:=by
  intro l
  induction l with
  |nil=>intro p;simp
  |cons x r ih=>intro p;rw[List.map_cons,List.foldl_cons,ih];simp[addD]
 rw[hu,h2,h3,h4,h5,h6]
theorem showT_len (p:LPg):(showT p).1.length≤4000:=by
 unfold showT
 cases rPg p != 0 with
 |true=>exact Nat.zero_le _
 |false=>
  rw[cond_false]
  by_cases hl:(txPg p).length>4000
  ·rw[decide_eq_true hl];exact Nat.zero_le _
  ·rw[decide_eq_false hl];exact Nat.le_of_not_gt hl
theorem B_tail (x a b:Bs):B x++(B (a++b)).extract (B a).size (B (a++b)).size=B (x++b):=by
 apply ByteArray.ext
 apply Array.toList_inj.1
 simp[ByteArray.data_append,B_data,B_size]
theorem w_with (p q:LPg):wlPg (withN p q)≤wlPg p+wlPg q:=by
 have h1:=wlPg_sum (withN p q)
 have h2:=wlPg_sum p
 have h3:=wlPg_sum q
 unfold withN at *
 simp only at h1
 omega
theorem w_head (p:LPg):wlPg (headP p)≤wlPg p:=by
 have h1:=wlPg_sum (headP p)
 have h2:=wlPg_sum p
 unfold headP at *
 simp only[List.map_nil,PV.wts]at h1
 omega
theorem w_both (p q:LPg):wlPg (bothP p q)≤wlPg p+wlPg q:=by
 have h1:=wlPg_sum (bothP p q)
 have h2:=wlPg_sum p
 have h3:=wlPg_sum q
 unfold bothP at *
 simp only[List.map_append,PV.wts_append]at h1
 omega
theorem len_pg (p:LPg) (hw:wlPg p≤1048576):LenPg p:=by
 have h:=wlPg_sum p
 have l1:=l_wts elUse (fun x=>by obtain⟨a,b,c⟩:=x;simp[elUse,PV.wt,PV.wts]) p.uses
 have l2:=l_wts elDt (fun x=>by obtain⟨a,b,c⟩:=x;simp[elDt,PV.wt,PV.wts];omega) p.datas
 have l3:=l_wts elTr (fun x=>by obtain⟨a,b⟩:=x;simp[elTr,PV.wt,PV.wts];omega) p.traits
 have l4:=l_wts elIm (fun x=>by obtain⟨a,b,c⟩:=x;simp[elIm,PV.wt,PV.wts];omega) p.impls
 have l5:=l_wts elFu (fun x=>by have:=wlFu_eq x;unfold wlFu at this;omega) p.funcs
 have l6:=l_wts elAc (fun x=>by have:=wlAc_eq x;omega) p.actors
 exact⟨by omega,by omega,by omega,by omega,by omega,by omega⟩
theorem joined_spec {tab:List Value} (hI:ItoC tab) (ev:Value) (hev:ev=.nilIface∨∃te pe,ev=.iface te pe) (p q:LPg) (hgp:rgPg p) (hgq:rgPg q) (hw:wlPg p+wlPg q≤1048576):
 AMem Tryz.prog 6 [.p (elPg p),.p (elPg q)] (glob2H 0 tab 2 [ev]) (.p (.b true)) (glob2H 0 tab 2 [ev]):=by
 have hgw:rgPg (withN p q):=hgq
 have hgh:rgPg (headP p):=⟨by simp[headP],by simp[headP],by simp[headP]⟩
 have w1:=w_with p q
 have w2:=w_head p
 have w3:=w_both p q
 refine joined_walk tab ev p q _ _ _ _ _ _ (by rw[B_size];exact showT_len p) (by rw[B_size];exact showT_len _) (by rw[B_size];exact showT_len _) (len_pg p (by omega)) (len_pg q (by omega)) (reads_spec ev hev)
  (text_spec hI p hgp (by omega)) (text_spec hI (withN p q) hgw (by omega)) (text_spec hI (headP p) hgh (by omega)) (fun z1 z2 z3 hlt hsum=>?_)
 obtain⟨a1,a2,a3⟩:=showT_ok z1
 obtain⟨b1,b2,b3⟩:=showT_ok z2
 obtain⟨c1,c2,c3⟩:=showT_ok z3
 rw[a3,b3,c3]at hsum
 rw[b3,c3]at hlt
 rw[a3,b3,c3]
 simp only[B_size]at hsum hlt
 have okp:=pg_ok a1 hgp
 have okq:=pg_ok b1 hgw
 have eh:txPg (headP p)=modB p.name p.ver:=by unfold txPg;simp[headP,decls]
 have ew:txPg (withN p q)=modB p.name p.ver++(decls q).flatMap dcB:=rfl
 have ep:txPg p++(decls q).flatMap dcB=modB p.name p.ver++(decls p++decls q).flatMap dcB:=by
  rw[List.flatMap_append,←List.append_assoc];rfl
 rw[eh,ew]at hsum
 have hL:(modB p.name p.ver++(decls p++decls q).flatMap dcB).length≤4000:=by
  rw[←ep]
  simp only[List.length_append]at hsum ⊢
  omega
 obtain⟨q2,h1,h2,h5⟩:=parse_text p.name p.ver okp.nm okp.ver (decls p++decls q) (fun d hd=>by
  rcases List.mem_append.1 hd with hd|hd
  ·exact okp.ds d hd
  ·exact okq.ds d hd) hL
 rw[List.foldl_append,decls_fold,fold_on]at h1
 have hr2:rPg q2=rPg (bothP p q):=by rw[←rPg_cl q2,h1,rPg_cl]
 have hS:=parse_at ev hev (modB p.name p.ver++(decls p++decls q).flatMap dcB) (fun pg b hq=>by rw[h5 pg b hq,←wPg_cl q2,h1,wPg_cl];omega)
 have hR:=right_spec (bothP p q) (by omega)
 have hB:B (txPg p)++(B (txPg (withN p q))).extract (B (txPg (headP p))).size (B (txPg (withN p q))).size=B (modB p.name p.ver++(decls p++decls q).flatMap dcB):=by
  rw[eh,ew,B_tail,ep]
 simp only
 rw[hB]
 rw[h2]at hS
 cases hz:rPg q2 != 0 with
 |true=>
  rw[hz,cond_true]at hS
  exact⟨pg0,0,rPg q2,rPg (bothP p q),hS,hR,.inl ⟨by rw[←hr2];exact hz,hr2⟩⟩
 |false=>
  rw[hz,cond_false]at hS
  have hz:rPg q2=0:=by simpa using hz
  exact⟨q2,0,0,rPg (bothP p q),hS,hR,.inr ⟨by rw[←hr2,hz],rfl,same_spec q2 (bothP p q) (by rw[←wPg_cl q2,h1,wPg_cl];omega) h1⟩⟩
end SX
