/-
  DERIVED. Contracts of functions that the law reaches, and the law, for every input. No conditions.
-/
import Derived.Test.YtndhaojhhmkfaaaGreatDoorCV1
import Derived.Test.YtndhaojhhmkfaaaGreatDoorTR1
import Derived.Shelf.Spec.SlicesGrow
open Go Go.AM Go.Proofs TR
set_option maxRecDepth 100000
namespace CV
theorem anys_snoc (k:Nat):ePs (anys (k+1))=ePs (anys k)++[eP any1]:=by
 unfold anys
 rw[ePs_map,ePs_map,List.replicate_succ',List.map_append];rfl
theorem anys_spec (n:Nat) (hn:n≤1000000):APure Tryz.prog 40 [.p (.i .i64 n)] (.p (.sl 4 (ePs (anys n)))):=by
 refine APure.intro (tyOf_ok Tryz.prog) hmix Tryz.func40 rfl (by rfl) (by kernel_rfl) (by show 1≤_;decide) rfl ?_
 conv=>whnf
 refine lp_nil 3 3 rfl ?_
 refine loopS (tyOf_ok _) hmix (by kernel_rfl) n [3,4,5] [] (fun k (_:Unit)=>[.so 4 (ePs (anys k)),.p (.i .i64 (n:Int)),.p (.i .i64 (ix k))]) (fun _ _=>[]) (fun _ _=>True) () ⟨rfl,rfl,rfl,rfl⟩ trivial ?_
 rintro k _ hk -
 conv=>whnf
 refine asplit ?_ ?_<;>intro h1<;>conv=>whnf
 ·have hk1:=ix_tt h1 rfl hk (by omega)
  refine aneed (show((ePs (anys k)).length+1)*56≤140737488355328 by rw[ePs_len,anys_len];omega) ?_
  conv=>whnf
  refine⟨hk1,(),⟨rfl,?_,rfl,rfl⟩,trivial⟩
  rw[anys_snoc]
  rfl
 ·have hk1:=ix_ff h1 rfl hk (by omega)
  subst hk1
  exact .inr (.inl rfl)
theorem open_spec (x:Pt):APure Tryz.prog 36 [.p (eP x)] (.p (.b (opn x))):=by
 obtain⟨k,n,t,xs⟩:=x
 unfold opn
 refine APure.intro (tyOf_ok Tryz.prog) hmix Tryz.func36 rfl (by rfl) (by kernel_rfl) (by show 1≤_;decide) rfl ?_
 conv=>whnf
 refine asplit ?_ ?_<;>intro h1<;>conv=>whnf
 ·replace h1:(k==1)=true:=h1
  exact .inl (pb (by simp only[Pt.kind];rw[h1];rfl))
 ·replace h1:(k==1)=false:=h1
  exact .inl (pb (by simp only[Pt.kind];rw[h1];rfl))
theorem alike_spec (a b:Pt):APure Tryz.prog 63 [.p (eP a),.p (eP b)] (.p (.b (alike a b))):=by
 obtain⟨k,n,t,xs⟩:=a
 obtain⟨k',n',t',xs'⟩:=b
 have hl:((ePs xs).length:Int)==((ePs xs').length:Int)↔(xs.length==xs'.length)=true:=by rw[ePs_len,ePs_len];simp;omega
 unfold alike
 simp only[Pt.kind,pnum,Pt.text,Pt.args]
 refine APure.intro (tyOf_ok Tryz.prog) hmix Tryz.func63 rfl (by rfl) (by kernel_rfl) (by show 2≤_;decide) rfl ?_
 conv=>whnf
 refine asplit ?_ ?_<;>intro h1<;>conv=>whnf
 ·replace h1:(k==k')=true:=h1
  rw[h1]
  refine asplit ?_ ?_<;>intro h2<;>conv=>whnf
  ·replace h2:(n==n')=true:=h2
   rw[h2]
   refine asplit ?_ ?_<;>intro h3<;>conv=>whnf
   ·rw[bl_iff]at h3
    rw[h3]
    refine .inl (pb ?_)
    show(((ePs xs).length:Int)==((ePs xs').length:Int))=_
    rw[Bool.true_and,Bool.true_and,Bool.true_and,Bool.eq_iff_iff]
    exact hl
   ·rw[bl_iff]at h3
    rw[h3]
    exact .inl rfl
  ·replace h2:(n==n')=false:=h2
   rw[h2]
   exact .inl rfl
 ·replace h1:(k==k')=false:=h1
  rw[h1]
  exact .inl rfl
theorem clone_spec (l:List Pt) (h:l.length≤1000000):APure Tryz.prog 16 [.p (.sl 4 (ePs l))] (.p (.sl 4 (ePs l))):=by
 cases l with
 |nil=>
  refine APure.nilOrNot (pre:=[]) (post:=[]) (sz:=4) ?_ ?_
  ·refine APure.intro (tyOf_ok Tryz.prog) hmix Tryz.func16 rfl (by rfl) (by kernel_rfl) (by show 1≤_;decide) rfl ?_
   conv=>whnf
   exact .inr (.inl rfl)
  ·refine APure.intro (tyOf_ok Tryz.prog) hmix Tryz.func16 rfl (by rfl) (by kernel_rfl) (by show 1≤_;decide) rfl ?_
   conv=>whnf
   refine aneed (by decide) ?_
   conv=>whnf
   exact .inr (.inl rfl)
 |cons a r=>
  refine APure.intro (tyOf_ok Tryz.prog) hmix Tryz.func16 rfl (by rfl) (by kernel_rfl) (by show 1≤_;decide) rfl ?_
  conv=>whnf
  refine aneed (show(([]:List PV).length+(ePs (a::r)).length)*56≤140737488355328 by rw[ePs_len];simp at h ⊢;omega) ?_
  conv=>whnf
  exact .inr (.inl rfl)
def eRow (r:Row):PV:=.sl 4 (ePs r)
theorem eRow_get {m:List Row} {k:Nat} {r:Row} (h:m[k]?=some r):(m.map eRow)[k]?=some (eRow r):=by rw[List.getElem?_map,h];rfl
theorem column_spec (l:List Pt) (hl:l.length≤1000000):APure Tryz.prog 23 [.p (.sl 4 (ePs l))] (.p (.sl 1 ((colF l).map eRow))):=by
 refine APure.intro (tyOf_ok Tryz.prog) hmix Tryz.func23 rfl (by rfl) (by kernel_rfl) (by show 1≤_;decide) rfl ?_
 conv=>whnf
 refine lp_nil 3 0 rfl ?_
 refine loopS (tyOf_ok _) hmix (by kernel_rfl) l.length [3,6,7,8] [] (fun k (_:Unit)=>[.so 1 ((colF (l.take k)).map eRow),.p (.sl 4 (ePs l)),.p (.i .i64 (ePs l).length),.p (.i .i64 (ix k))]) (fun _ _=>[]) (fun _ _=>True) () ⟨rfl,rfl,rfl,rfl⟩ trivial ?_
 rintro k _ hk -
 conv=>whnf
 refine asplit ?_ ?_<;>intro h1<;>conv=>whnf
 ·have hk1:=ix_tt h1 (by rw[ePs_len]) hk (by omega)
  obtain⟨b,hb⟩:∃b,l[k]?=some b:=⟨_,List.getElem?_eq_getElem hk1⟩
  have e1:(colF (l.take (k+1))).map eRow=(colF (l.take k)).map eRow++[.sl 4 [eP b]]:=by
   unfold colF
   rw[List.take_add_one,hb,List.map_append,List.map_append];rfl
  have e2:((colF (l.take k)).map eRow).length=k:=by unfold colF;simp;omega
  refine aidxk (ePs_get hb) (by omega) ?_
  generalize (colF (l.take k)).map eRow=ms at e1 e2
  obtain⟨bk,bn,bt,bx⟩:=b
  conv=>whnf
  refine aneed (show(ms.length+1)*24≤140737488355328 by omega) ?_
  conv=>whnf
  refine⟨hk1,(),⟨rfl,?_,rfl,rfl⟩,trivial⟩
  rw[e1]
  rfl
 ·have hk1:=ix_ff h1 (by rw[ePs_len]) hk (by omega)
  subst hk1
  rw[List.take_length]
  exact .inr (.inl rfl)
end CV
open Go Go.AM Go.Proofs Go.Shelf TR
set_option maxRecDepth 100000
namespace CV
theorem bodyOf {f:Nat} {fn:Func} {c:Code} (hf:Tryz.prog.funcs[f]?=some fn) (hb:fn.body=some c) (hn:(fn.name== "runtime.NumGoroutine")=false):hasBody Tryz.prog f:=⟨fn,c,hf,hb,hn⟩
theorem infoParts {o:Option TypeInfo} {a b c:Nat} (h:o.map (fun i=>(i.zero.map fun z=>z.cells.size,i.size,i.bytes))=some (some a,b,c)):∃i z,o=some i∧i.zero=some z∧z.cells.size=a∧i.size=b∧i.bytes=c:=by
 cases o with
 |none=>cases h
 |some i=>
  simp only[Option.map_some,Option.some.injEq,Prod.mk.injEq,Option.map_eq_some_iff]at h
  obtain⟨⟨z,h1,h2⟩,h3,h4⟩:=h
  exact⟨i,z,rfl,h1,h2,h3,h4⟩
theorem grow_size (z:Array Value) (n cap:Nat):cap*z.size≤(([]:List Value).toArray++Builtin.zeroCells z (0+n-0)++Builtin.zeroCells z (cap-(0+n))).size:=by
 simp only[Array.size_append,List.size_toArray,List.length_nil,zeroCells_size,Nat.zero_add,Nat.sub_zero]
 rw[←Nat.add_mul]
 exact Nat.mul_le_mul_right _ (by omega)
theorem grow_rel {f:Nat} (sz:Nat) (hz:0<sz) (g:Gh) (w:World) (n:Nat) (hh:HRel g w []) (hbn:∀b ow,g.own b=some ow→b<w.heap.size)
 (h0:n=0→Calls Tryz.prog f #[.slice none 0 0,.int .i64 n] w fun e w'=>e=.returned (.slice none 0 0)∧w'=w)
 (h1:0<n→Calls Tryz.prog f #[.slice none 0 0,.int .i64 n] w fun e w'=>∃(cap:Nat) (cs:Array Value) (E:TypeId),e=.returned (.slice (some ⟨w.heap.size,0,none⟩) 0 cap)∧w'=w.drew.alloc (.cells cs E)∧cap*sz≤cs.size):
 Calls Tryz.prog f [.slice none 0 0,.int .i64 n].toArray w fun en w'=>∃v g',en=.returned v∧VRel g' w' (domOf []) (some .ret) v (.so sz [])∧HRel g' w' []∧(∀b ow,g'.own b=some ow→b<w'.heap.size)∧Ext g w g' w':=by
 by_cases hn:n=0
 ·refine(h0 hn).mono ?_
  rintro e w' ⟨rfl,rfl⟩
  exact⟨_,g,rfl,.full _ none sz [] hz (.nil sz),hh,hbn,Ext.refl _ _⟩
 ·refine(h1 (by omega)).mono ?_
  rintro e w' ⟨cap,cs,E,rfl,rfl,hcs⟩
  refine⟨_,g.new w.heap.size 0 (some .ret),rfl,?_,⟨fun l x hx=>(by cases hx),fun l x hx=>(by cases hx),fun l x hx=>(by cases hx)⟩,fun b ow ho=>?_,?_⟩
  ·exact .own .ret ⟨w.heap.size,0,none⟩ cap sz [] cs E hz (.sl _ cap sz [] (fun _ _=>.nilIface) (fun _=>rfl) (Nat.zero_le _) (fun x hx=>by cases hx) (fun j x hx=>by cases hx) (fun j x hx=>by cases hx)) (by simp[Gh.new]) (by simp[Gh.new]) (push_new (w:={ w with drawn:=w.drawn+1 })) (by simpa using hcs)
  ·show b<(World.push { w with drawn:=w.drawn+1 } (.cells cs E (0,0))).heap.size
   rw[push_size]
   show b<w.heap.size+1
   by_cases hb:b=w.heap.size
   ·omega
   ·have:=hbn b ow (by simpa[Gh.new,hb] using ho);omega
  ·exact(Ext.drew (k:=w.drawn+1)).trans (Ext.push (w:={ w with drawn:=w.drawn+1 }) (fun b hb=>by simp[Gh.new,Nat.ne_of_lt (show b<w.heap.size from hb)]) (fun a=>frozen_push a) (fun _ _=>rfl))
def growPat_ren:Go.Shelf.Ren:=⟨fun|4=>65|n=>n,fun|22=>33|25=>35|n=>n,fun|n=>n⟩
theorem growPat:Lays8.n4 Tryz.prog growPat_ren:={
 mixed:=by kernel_rfl
 f4:=⟨Tryz.f65.name,by kernel_rfl,Tryz.func65.trans (congrArg some (by kernel_rfl))⟩
 t0:=Tryz.underlying0
 a0:=Tryz.isAgg0
 z0:=Tryz.sizeOf0
 v0:=Tryz.zeroValue0
 t3:=Tryz.underlying3
 a3:=Tryz.isAgg3
 z3:=Tryz.sizeOf3
 v3:=Tryz.zeroValue3
 t4:=Tryz.underlying4
 a4:=Tryz.isAgg4
 z4:=Tryz.sizeOf4
 v4:=Tryz.zeroValue4
 t9:=Tryz.underlying9
 a9:=Tryz.isAgg9
 z9:=Tryz.sizeOf9
 v9:=Tryz.zeroValue9
 t20:=Tryz.underlying20
 a20:=Tryz.isAgg20
 z20:=Tryz.sizeOf20
 v20:=Tryz.zeroValue20
 t22:=Tryz.underlying33
 a22:=Tryz.isAgg33
 z22:=Tryz.sizeOf33
 v22:=Tryz.zeroValue33 }
theorem growPat_spec (n:Nat) (hn:n≤100000000):AMem Tryz.prog 65 [.nilS,.p (.i .i64 n)] [] (.so 4 []) []:=by
 refine⟨⟨bodyOf Tryz.func65 rfl (by rfl),rfl⟩,fun g w us hh hbn hlen hrel=>?_⟩
 match us,hlen with
 | [u1,u2],_=>
 have r1:=hrel 0 u1 _ rfl rfl
 have r2:=hrel 1 u2 _ rfl rfl
 cases r1
 cases r2 with
 |p _ _ _ r2=>
 cases r2
 obtain⟨i0,z,hi,hz,hz0,hz1,hz2⟩:=infoParts (show(Tryz.prog.info? 35).map (fun i=>(i.zero.map fun z=>z.cells.size,i.size,i.bytes))=some (some 4,4,56) by kernel_rfl)
 exact grow_rel 4 (by decide) g w n hh hbn (fun h=>by
  refine(Any8.slices_Grow_room growPat none 0 0 n w (by decide) (by decide) (by omega) (by omega)).mono ?_
  rintro e w' ⟨h1,h2⟩
  exact⟨h1,h2⟩) (fun h=>by
  refine(Any8.slices_Grow_grow growPat i0 z hi hz (by omega) none 0 0 n [] w (Nat.le_refl 0) (by omega) (by rw[hz2];omega) (by omega) (by simp) (fun _=>rfl) (fun a h=>by cases h)).mono ?_
  rintro e w' ⟨h1,h2⟩
  exact⟨_,_,_,h1,h2,by rw[←hz0];exact grow_size z.cells n _⟩)
def lens (xss:List (List PV)):Nat:=(xss.map List.length).sum
theorem lens_take (xss:List (List PV)) (k:Nat) {x:List PV} (h:xss[k]?=some x):lens (xss.take (k+1))=lens (xss.take k)+x.length:=by
 unfold lens
 rw[List.take_add_one,h]
 simp
theorem lens_le (xss:List (List PV)) (k:Nat):lens (xss.take k)≤lens xss:=by
 unfold lens
 conv=>rhs;rw[←List.take_append_drop k xss]
 rw[List.map_append,List.sum_append]
 omega
theorem flat_len (xss:List (List PV)):xss.flatten.length=lens xss:=by unfold lens;rw[List.length_flatten]
noncomputable abbrev tyPat:Nat→Option TI:=hint (tyOf Tryz.prog) 33 [9999]
theorem tyPat_ok:TyOK Tryz.prog tyPat:=(tyOf_ok Tryz.prog).hint 33 [9999]
theorem concatPat_spec (xss:List (List PV)) (hn:xss.length≤1000) (hx:lens xss≤10000000):AMem Tryz.prog 37 [.p (.sl 1 (xss.map (.sl 4)))] [] (.p (.sl 4 xss.flatten)) []:=by
 have hG:=growPat_spec (lens xss) (by omega)
 refine AMem.intro tyPat_ok hmix Tryz.func37 rfl (by rfl) (by kernel_rfl) (by show 1≤_;decide) rfl ?_
 conv=>whnf
 refine loopS tyPat_ok hmix (by kernel_rfl) xss.length [0,2,3,9,10,11] [] (fun k (_:Unit)=>[.p (.sl 1 (xss.map (.sl 4))),.nilS,.p (.i .i64 (lens (xss.take k))),.p (.sl 1 (xss.map (.sl 4))),.p (.i .i64 (xss.map (PV.sl 4)).length),.p (.i .i64 (ix k))]) (fun _ _=>[]) (fun _ _=>True) () ⟨rfl,rfl,rfl,rfl⟩ trivial ?_
 intro k _ hk _
 conv=>whnf
 refine asplit ?_ ?_<;>intro h1<;>conv=>whnf
 ·have hk1:=ix_tt h1 (by simp) hk (by omega)
  obtain⟨b,hb1⟩:∃b,xss[k]?=some b:=⟨_,List.getElem?_eq_getElem hk1⟩
  have hl1:=lens_take xss k hb1
  have hl2:=lens_le xss (k+1)
  refine aidxk (x:=PV.sl 4 b) (by simp[hb1]) (by omega) ?_
  conv=>whnf
  have hwr:IntKind.i64.wrap ((lens (xss.take k):Int)+(b.length:Int))=(lens (xss.take (k+1)):Int):=(Go.AM.wrap64 (x:=(lens (xss.take k):Int)+(b.length:Int)) (by omega) (by omega)).trans (by omega)
  rw[hwr,decide_eq_false (show ¬((lens (xss.take (k+1)):Int)<0) by omega)]
  conv=>whnf
  exact⟨hk1,(),⟨rfl,rfl,rfl,rfl⟩,trivial⟩
 ·have hk1:=ix_ff h1 (by simp) hk (by omega)
  subst hk1
  rw[List.take_length]
  refine amc [] 500 hG ?_
  conv=>whnf
  refine loopS tyPat_ok hmix (by kernel_rfl) xss.length [0,2,6,25,26,27] [] (fun k (_:Unit)=>[.p (.sl 1 (xss.map (.sl 4))),.nilS,.so 4 (xss.take k).flatten,.p (.sl 1 (xss.map (.sl 4))),.p (.i .i64 (xss.map (PV.sl 4)).length),.p (.i .i64 (ix k))]) (fun _ _=>[]) (fun _ _=>True) () ⟨rfl,rfl,rfl,rfl⟩ trivial ?_
  intro k _ hk _
  conv=>whnf
  refine asplit ?_ ?_<;>intro h2<;>conv=>whnf
  ·have hk1:=ix_tt h2 (by simp) hk (by omega)
   obtain⟨b,hb1⟩:∃b,xss[k]?=some b:=⟨_,List.getElem?_eq_getElem hk1⟩
   have hl1:=lens_take xss k hb1
   have hl2:=lens_le xss (k+1)
   have hfl:(xss.take (k+1)).flatten=(xss.take k).flatten++b:=by rw[List.take_add_one,hb1];simp
   have hfn:=flat_len (xss.take k)
   refine aidxk (x:=PV.sl 4 b) (by simp[hb1]) (by omega) ?_
   conv=>whnf
   refine aneed (by show(_+_)*56≤_;omega) ?_
   conv=>whnf
   rw[hfl]
   exact⟨hk1,(),⟨rfl,rfl,rfl,rfl⟩,trivial⟩
  ·have hk1:=ix_ff h2 (by simp) hk (by omega)
   subst hk1
   rw[List.take_length]
   conv=>whnf
   exact⟨.inr rfl,trivial⟩
theorem cat_spec (a b:List Pt) (ha:a.length≤1000000) (hb:b.length≤1000000):AMem Tryz.prog 37 [.p (.sl 1 [.sl 4 (ePs a),.sl 4 (ePs b)])] [] (.p (.sl 4 (ePs (a++b)))) []:=by
 have:=concatPat_spec [ePs a,ePs b] (by simp) (by simp[lens,ePs_len];omega)
 rw[ePs_app]
 simpa using this
end CV
open Go Go.AM Go.Proofs TR
set_option maxRecDepth 100000
namespace CV
theorem take_snoc' {α:Type} {l:List α} {k:Nat} {a:α} (h:l[k]?=some a):l.take (k+1)=l.take k++[a]:=by rw[List.take_add_one,h];rfl
theorem ePs_cons (x:Pt) (t:List Pt):ePs (x::t)=eP x::ePs t:=by rw[ePs]
theorem rest_len (m:List Row):(restF m).length≤m.length:=List.length_filterMap_le _ _
theorem under_len (m:List Row) (h:Pt):(underF m h).length≤m.length:=List.length_filterMap_le _ _
theorem rest_snoc (m:List Row) (x:Pt) (t:Row):restF (m++[x::t])=restF m++(bif opn x then [t] else []):=by
 unfold restF
 rw[List.filterMap_append]
 congr 1
 show(List.filterMap rest1 [x::t])=_
 rw[List.filterMap_cons,rest1]
 cases opn x<;>rfl
theorem under_snoc (m:List Row) (h x:Pt) (t:Row):underF (m++[x::t]) h=underF m h++(bif opn x then [anys h.args.length++t] else bif alike x h then [x.args++t] else []):=by
 unfold underF
 rw[List.filterMap_append]
 congr 1
 show(List.filterMap (under1 h) [x::t])=_
 rw[List.filterMap_cons,under1]
 cases opn x with
 |true=>rfl
 |false=>cases alike x h<;>rfl
theorem eRow_cons {m:List Row} {k:Nat} {x:Pt} {t:Row} (h:m[k]?=some (x::t)):(m.map eRow)[k]?=some (.sl 4 (eP x::ePs t)):=by rw[eRow_get h,eRow,ePs_cons]
theorem slice1 (a:PV) (l:List PV):List.drop (Int.toNat 1) (List.take (((a::l).length:Int).toNat) (a::l))=l:=by simp
theorem rest_spec (m:List Row) (hm:∀r∈m,r≠[]) (hl:m.length≤1000000):APure Tryz.prog 34 [.p (.sl 1 (m.map eRow))] (.p (.sl 1 ((restF m).map eRow))):=by
 refine APure.intro (tyOf_ok Tryz.prog) hmix Tryz.func34 rfl (by rfl) (by kernel_rfl) (by show 1≤_;decide) rfl ?_
 conv=>whnf
 refine lp_nil 3 0 rfl ?_
 refine loopS (tyOf_ok _) hmix (by kernel_rfl) m.length [3,6,7,8] [] (fun k (_:Unit)=>[.so 1 ((restF (m.take k)).map eRow),.p (.sl 1 (m.map eRow)),.p (.i .i64 (m.map eRow).length),.p (.i .i64 (ix k))]) (fun _ _=>[]) (fun _ _=>True) () ⟨rfl,rfl,rfl,rfl⟩ trivial ?_
 rintro k _ hk -
 conv=>whnf
 refine asplit ?_ ?_<;>intro h1<;>conv=>whnf
 ·have hk1:=ix_tt h1 (by rw[List.length_map]) hk (by omega)
  obtain⟨b,hb⟩:∃b,m[k]?=some b:=⟨_,List.getElem?_eq_getElem hk1⟩
  have hne:=hm b (List.mem_of_getElem? hb)
  cases b with
  |nil=>exact absurd rfl hne
  |cons x t=>
  have hts:=take_snoc' hb
  have hsn:=rest_snoc (m.take k) x t
  rw[←hts]at hsn
  have hlen:((restF (m.take k)).map eRow).length≤k:=by
   have:=rest_len (m.take k);simp at this ⊢;omega
  have hc:=open_spec x
  refine aidxk (eRow_cons hb) (by omega) ?_
  generalize opn x=q at hc hsn
  generalize hms:(restF (m.take k)).map eRow=ms at hlen
  obtain⟨bk,bn,bt,bx⟩:=x
  conv=>whnf
  refine aidxn (i:=0) rfl ?_
  conv=>whnf
  refine apc hc ?_
  conv=>whnf
  refine asplit ?_ ?_<;>intro h2<;>conv=>whnf
  ·subst h2
   refine aneed ⟨by decide,by simp;omega,by simp⟩ ?_
   conv=>whnf
   refine aneed (show(ms.length+1)*24≤140737488355328 by omega) ?_
   conv=>whnf
   refine⟨hk1,(),⟨rfl,?_,rfl,rfl⟩,trivial⟩
   rw[slice1,hsn,List.map_append,hms]
   rfl
  ·subst h2
   have e1:(restF (m.take (k+1))).map eRow=ms:=by rw[hsn,List.map_append,hms];simp
   refine⟨hk1,(),⟨rfl,?_,rfl,rfl⟩,trivial⟩
   rw[e1]
   rfl
 ·have hk1:=ix_ff h1 (by rw[List.length_map]) hk (by omega)
  subst hk1
  rw[List.take_length]
  exact .inr (.inl rfl)
theorem under_spec (m:List Row) (h:Pt) (hm:∀r∈m,r≠[]) (hl:m.length≤1000000) (hr:∀r∈m,r.length≤1000000) (ha:h.args.length≤1000000):APure Tryz.prog 33 [.p (.sl 1 (m.map eRow)),.p (eP h)] (.p (.sl 1 ((underF m h).map eRow))):=by
 have hany:=anys_spec h.args.length ha
 have hal:=anys_len h.args.length
 have hsn0:=fun k x t (e:m.take (k+1)=m.take k++[x::t])=>e ▸ under_snoc (m.take k) h x t
 have hlk:=fun x=>alike_spec x h
 have hul:=fun k=>under_len (m.take k) h
 obtain⟨hk0,hn0,ht0,hx0⟩:=h
 have hargs:(Pt.mk hk0 hn0 ht0 hx0).args=hx0:=rfl
 simp only[hargs]at hany hal hsn0 ha
 refine APure.intro (tyOf_ok Tryz.prog) hmix Tryz.func33 rfl (by rfl) (by kernel_rfl) (by show 2≤_;decide) rfl ?_
 conv=>whnf
 refine lp_nil 5 0 rfl ?_
 refine loopS (tyOf_ok _) hmix (by kernel_rfl) m.length [3,5,8,9,10] [3] (fun k (_:Unit)=>[.ptr 3 0,.so 1 ((underF (m.take k) (.mk hk0 hn0 ht0 hx0)).map eRow),.p (.sl 1 (m.map eRow)),.p (.i .i64 (m.map eRow).length),.p (.i .i64 (ix k))]) (fun _ _=>[.cells [.p (.i .i64 hk0),.p (.i .i64 hn0),.p (.s ht0),.p (.sl 4 (ePs hx0))]]) (fun _ _=>True) () ⟨rfl,rfl,rfl,rfl⟩ trivial ?_
 rintro k _ hk -
 conv=>whnf
 refine asplit ?_ ?_<;>intro h1<;>conv=>whnf
 ·have hk1:=ix_tt h1 (by rw[List.length_map]) hk (by omega)
  obtain⟨b,hb⟩:∃b,m[k]?=some b:=⟨_,List.getElem?_eq_getElem hk1⟩
  have hmem:=List.mem_of_getElem? hb
  have hne:=hm b hmem
  have hbl:=hr b hmem
  cases b with
  |nil=>exact absurd rfl hne
  |cons x t=>
  simp only[List.length_cons]at hbl
  have hsn:=hsn0 k x t (take_snoc' hb)
  have hlen:((underF (m.take k) (.mk hk0 hn0 ht0 hx0)).map eRow).length≤k:=by
   have:=hul k;simp at this ⊢;omega
  have hc:=open_spec x
  have hc2:=hlk x
  have hc3:=cat_spec (anys hx0.length) t (by rw[hal];exact ha) (by omega)
  have hc4:=fun(hxa:x.args.length≤1000000)=>cat_spec x.args t hxa (by omega)
  have hlk2:alike x (.mk hk0 hn0 ht0 hx0)=true→x.args.length=hx0.length:=fun h=>by
   unfold alike at h
   simp only[Bool.and_eq_true,hargs]at h
   simpa using h.2.2.2
  refine aidxk (eRow_cons hb) (by omega) ?_
  generalize opn x=q at hc hsn
  generalize alike x (.mk hk0 hn0 ht0 hx0)=q2 at hc2 hsn hlk2
  generalize hms:(underF (m.take k) (.mk hk0 hn0 ht0 hx0)).map eRow=ms at hlen
  obtain⟨bk,bn,bt,bx⟩:=x
  have hargs2:(Pt.mk bk bn bt bx).args=bx:=rfl
  simp only[hargs2]at hsn hc4 hlk2
  conv=>whnf
  refine aidxn (i:=0) rfl ?_
  conv=>whnf
  refine apc hc ?_
  conv=>whnf
  refine asplit ?_ ?_<;>intro h2<;>conv=>whnf
  ·subst h2
   have e1:(underF (m.take (k+1)) (.mk hk0 hn0 ht0 hx0)).map eRow=ms++[.sl 4 (ePs (anys hx0.length++t))]:=by rw[hsn,List.map_append,hms];rfl
   rw[show((ePs hx0).length:Int)=(hx0.length:Int) by rw[ePs_len]]
   refine apc hany ?_
   conv=>whnf
   refine aneed ⟨by decide,by simp;omega,by simp⟩ ?_
   conv=>whnf
   rw[slice1]
   refine amc [] 500 hc3 ?_
   conv=>whnf
   refine aneed (show(ms.length+1)*24≤140737488355328 by omega) ?_
   conv=>whnf
   refine aneed (by kernel_rfl) ?_
   conv=>whnf
   refine⟨hk1,(),⟨rfl,?_,rfl,rfl⟩,trivial⟩
   rw[e1]
   rfl
  ·subst h2
   refine aidxn (i:=0) rfl ?_
   conv=>whnf
   refine apc hc2 ?_
   conv=>whnf
   refine aneed (by kernel_rfl) ?_
   conv=>whnf
   refine asplit ?_ ?_<;>intro h3<;>conv=>whnf
   ·subst h3
    have hc5:=hc4 (by rw[hlk2 rfl];exact ha)
    have e1:(underF (m.take (k+1)) (.mk hk0 hn0 ht0 hx0)).map eRow=ms++[.sl 4 (ePs (bx++t))]:=by rw[hsn,List.map_append,hms];rfl
    refine aidxn (i:=0) rfl ?_
    conv=>whnf
    refine aneed ⟨by decide,by simp;omega,by simp⟩ ?_
    conv=>whnf
    rw[slice1]
    refine amc [] 500 hc5 ?_
    conv=>whnf
    refine aneed (show(ms.length+1)*24≤140737488355328 by omega) ?_
    conv=>whnf
    refine aneed (by kernel_rfl) ?_
    conv=>whnf
    refine⟨hk1,(),⟨rfl,?_,rfl,rfl⟩,trivial⟩
    rw[e1]
    rfl
   ·subst h3
    have e1:(underF (m.take (k+1)) (.mk hk0 hn0 ht0 hx0)).map eRow=ms:=by rw[hsn,List.map_append,hms];simp
    refine⟨hk1,(),⟨rfl,?_,rfl,rfl⟩,trivial⟩
    rw[e1]
    rfl
 ·have hk1:=ix_ff h1 (by rw[List.length_map]) hk (by omega)
  subst hk1
  rw[List.take_length]
  exact .inr (.inl rfl)
end CV
open Go Go.AM Go.Proofs TR
set_option maxRecDepth 100000
namespace CV
def mkPair (m:LMk):ByteArray×Nat:=(m.name,m.ts.length)
def sgOf (ds:List LDt):Sg:=ds.map fun d=>d.makes.map mkPair
def hpN (n:ByteArray):Heap:=[(1000000000,.cells [.p (.s n)])]
theorem makes1_spec (m:LMk) (n:ByteArray):AMem Tryz.prog 102 [.p (elMk m),.ptr 1000000000 0] (hpN n) (.p (.b (m.name==n))) (hpN n):=by
 obtain⟨mn,mt⟩:=m
 unfold hpN
 refine AMem.intro (tyOf_ok Tryz.prog) hmix Tryz.func102 rfl (by rfl) (by kernel_rfl) (by show 2≤_;decide) rfl ?_
 conv=>whnf
 exact⟨.inl (pb (bl_iff _ _)),⟨.inl rfl,trivial⟩,trivial⟩
def mkF (n:ByteArray):List LMk→Nat→Int
 | [],_=>-1
 |m::r,k=>bif m.name==n then (k:Int) else mkF n r (k+1)
theorem mk_any (n:ByteArray):∀(l:List LMk) (k:Nat),decide (mkF n l k≥0)=(l.map mkPair).any (fun x=>x.1==n)
 | [],k=>rfl
 |m::r,k=>by
  rw[mkF,List.map_cons,List.any_cons]
  show _=((m.name==n)||_)
  cases hq:m.name==n with
  |true=>simp
  |false=>rw[cond_false,mk_any n r (k+1)];rfl
theorem idxM_spec (l:List LMk) (hl:l.length≤1000000) (n:ByteArray):AMem Tryz.prog 133 [.p (.sl 2 (l.map elMk)),.fn 102 [] [.ptr 1000000000 0]] (hpN n) (.p (.i .i64 (mkF n l 0))) (hpN n):=by
 have hc0:=fun m=>makes1_spec m n
 unfold hpN at hc0 ⊢
 generalize hR:mkF n l 0=R
 refine AMem.intro (tyOf_ok Tryz.prog) hmix Tryz.func133 rfl (by rfl) (by kernel_rfl) (by show 2≤_;decide) rfl ?_
 conv=>whnf
 refine loopS (tyOf_ok _) hmix (by kernel_rfl) l.length [0,1,7,8] [1000000000] (fun k (_:Unit)=>[.p (.sl 2 (l.map elMk)),.fn 102 [] [.ptr 1000000000 0],.p (.i .i64 (l.map elMk).length),.p (.i .i64 (ix k))]) (fun _ _=>[.cells [.p (.s n)]]) (fun k _=>mkF n (l.drop k) k=R) () ⟨rfl,rfl,rfl,rfl⟩ hR ?_
 intro k _ hk hs
 conv=>whnf
 refine asplit ?_ ?_<;>intro h1<;>conv=>whnf
 ·have hk1:=ix_tt h1 (by rw[List.length_map]) hk (by omega)
  obtain⟨b,hb1⟩:∃b,l[k]?=some b:=⟨_,List.getElem?_eq_getElem hk1⟩
  refine aidxk (x:=elMk b) (by rw[List.getElem?_map,hb1];rfl) (by omega) ?_
  rw[drop_cons hb1,mkF]at hs
  have hc:=hc0 b
  generalize (b.name==n)=q at hc hs
  obtain⟨bn,bt⟩:=b
  conv=>whnf
  refine amc [1000000000] 50 hc ?_
  conv=>whnf
  refine asplit ?_ ?_<;>intro h2<;>conv=>whnf
  ·subst h2
   exact⟨.inl (pi (by rw[ix_eq (by omega)];exact hs)),⟨.inl rfl,trivial⟩,trivial⟩
  ·subst h2
   exact⟨hk1,(),⟨rfl,rfl,rfl,rfl⟩,hs⟩
 ·have hk1:=ix_ff h1 (by rw[List.length_map]) hk (by omega)
  rw[hk1,List.drop_length,mkF]at hs
  exact⟨.inl (pi hs),⟨.inl rfl,trivial⟩,trivial⟩
theorem contM_spec (l:List LMk) (hl:l.length≤1000000) (n:ByteArray):AMem Tryz.prog 101 [.p (.sl 2 (l.map elMk)),.fn 102 [] [.ptr 1000000000 0]] (hpN n) (.p (.b ((l.map mkPair).any fun x=>x.1==n))) (hpN n):=by
 have h:=idxM_spec l hl n
 unfold hpN at h ⊢
 rw[←mk_any n l 0]
 refine AMem.intro (tyOf_ok Tryz.prog) hmix Tryz.func101 rfl (by rfl) (by kernel_rfl) (by show 2≤_;decide) rfl ?_
 conv=>whnf
 refine amc [1000000000] 50 h ?_
 conv=>whnf
 exact⟨.inl rfl,⟨.inl rfl,trivial⟩,trivial⟩
theorem makes_snoc (l:List LMk) (k:Nat) (m:LMk) (h:l[k]?=some m):ePs (((l.take (k+1)).map mkPair).map mkHead)=ePs (((l.take k).map mkPair).map mkHead)++[eP (mkHead (mkPair m))]:=by
 rw[take_snoc' h,ePs_map,ePs_map,List.map_append,List.map_append,List.map_append];rfl
theorem sg_cons (d:LDt) (r:List LDt):sgOf (d::r)=(d.makes.map mkPair)::sgOf r:=rfl
theorem makes_spec (p:LPg) (n:ByteArray) (hd:p.datas.length≤1000000) (hm:∀d∈p.datas,d.makes.length≤1000000∧∀m∈d.makes,m.ts.length≤1000000):APure Tryz.prog 62 [.p (elPg p),.p (.s n)] (.p (.sl 4 (ePs (makesF (sgOf p.datas) n)))):=by
 obtain⟨pn,pv,pu,pd,pt,pi',pf,pa⟩:=p
 simp only at hd hm
 have hcm:=fun(l:List LMk) (hl:l.length≤1000000)=>contM_spec l hl n
 unfold hpN at hcm
 generalize hR:makesF (sgOf pd) n=R
 refine APure.intro (tyOf_ok Tryz.prog) hmix Tryz.func62 rfl (by rfl) (by kernel_rfl) (by show 2≤_;decide) rfl ?_
 conv=>whnf
 refine loopS (tyOf_ok _) hmix (by kernel_rfl) pd.length [3,11,12,13] [3] (fun k (_:Unit)=>[.ptr 3 0,.p (.sl 3 (pd.map elDt)),.p (.i .i64 (pd.map elDt).length),.p (.i .i64 (ix k))]) (fun _ _=>[.cells [.p (.s n)]]) (fun k _=>makesF (sgOf (pd.drop k)) n=R) () ⟨rfl,rfl,rfl,rfl⟩ hR ?_
 rintro k _ hk hs
 conv=>whnf
 refine asplit ?_ ?_<;>intro h1<;>conv=>whnf
 ·have hk1:=ix_tt h1 (by rw[List.length_map]) hk (by omega)
  obtain⟨b,hb⟩:∃b,pd[k]?=some b:=⟨_,List.getElem?_eq_getElem hk1⟩
  obtain⟨m1,m2⟩:=hm b (List.mem_of_getElem? hb)
  rw[drop_cons hb,sg_cons,makesF]at hs
  refine aidxk (x:=elDt b) (by rw[List.getElem?_map,hb];rfl) (by omega) ?_
  have hc:=hcm b.makes m1
  generalize ((b.makes.map mkPair).any fun x=>x.1==n)=q at hc hs
  obtain⟨bn,bps,bm⟩:=b
  simp only at hc hs m1 m2
  conv=>whnf
  refine amc [3] 50 hc ?_
  conv=>whnf
  refine asplit ?_ ?_<;>intro h2<;>conv=>whnf
  ·obtain rfl:q=false:=by simpa using h2
   exact⟨hk1,(),⟨rfl,rfl,rfl,rfl⟩,hs⟩
  ·obtain rfl:q=true:=by simpa using h2
   refine lp_nil 7 3 rfl ?_
   refine loopS (tyOf_ok _) hmix (by kernel_rfl) bm.length [7,23,24,25] [] (fun j (_:Unit)=>[.so 4 (ePs (((bm.take j).map mkPair).map mkHead)),.p (.sl 2 (bm.map elMk)),.p (.i .i64 (bm.map elMk).length),.p (.i .i64 (ix j))]) (fun _ _=>[]) (fun _ _=>True) () ⟨rfl,rfl,rfl,rfl⟩ trivial ?_
   rintro j _ hj -
   conv=>whnf
   refine asplit ?_ ?_<;>intro h3<;>conv=>whnf
   ·have hj1:=ix_tt h3 (by rw[List.length_map]) hj (by omega)
    obtain⟨a,ha⟩:∃a,bm[j]?=some a:=⟨_,List.getElem?_eq_getElem hj1⟩
    have ht:=m2 a (List.mem_of_getElem? ha)
    have hsn:=makes_snoc bm j a ha
    have hany:=anys_spec a.ts.length ht
    have hlen:(ePs (((bm.take j).map mkPair).map mkHead)).length=j:=by rw[ePs_len];simp;omega
    refine aidxk (x:=elMk a) (by rw[List.getElem?_map,ha];rfl) (by omega) ?_
    generalize ePs (((bm.take j).map mkPair).map mkHead)=zs at hsn hlen
    obtain⟨an,ats⟩:=a
    simp only at hany
    conv=>whnf
    rw[show(((eTs (LMk.mk an ats).ts).length:Nat):Int)=(ats.length:Int) by rw[eTs_len]]
    refine apc hany ?_
    conv=>whnf
    refine aneed (show(zs.length+1)*56≤140737488355328 by omega) ?_
    conv=>whnf
    refine aneed (by kernel_rfl) ?_
    conv=>whnf
    refine⟨hj1,(),⟨rfl,?_,rfl,rfl⟩,trivial⟩
    rw[hsn]
    rfl
   ·have hj1:=ix_ff h3 (by rw[List.length_map]) hj (by omega)
    subst hj1
    rw[List.take_length]
    have hs:(bm.map mkPair).map mkHead=R:=hs
    rw[hs]
    exact .inr (.inl rfl)
 ·have hk1:=ix_ff h1 (by rw[List.length_map]) hk (by omega)
  rw[hk1,List.drop_length]at hs
  have hs:[]=R:=hs
  subst hs
  exact .inr (.inl rfl)
theorem heads_spec (p:LPg) (m:List Row) (hd:p.datas.length≤1000000) (hm:∀d∈p.datas,d.makes.length≤1000000∧∀m∈d.makes,m.ts.length≤1000000) (hl:m.length≤1000000) (hne:∀r∈m,r≠[]):
 APure Tryz.prog 32 [.p (elPg p),.p (.sl 1 (m.map eRow))] (.tup [.p (.sl 4 (ePs ((headsF (sgOf p.datas) m).getD []))),.p (.b (headsF (sgOf p.datas) m).isSome)]):=by
 have hmk:=fun n=>makes_spec p n hd hm
 obtain⟨pn,pv,pu,pd,pt,pi',pf,pa⟩:=p
 simp only at hd hm hmk ⊢
 generalize hR:headsF (sgOf pd) m=R
 refine APure.intro (tyOf_ok Tryz.prog) hmix Tryz.func32 rfl (by rfl) (by kernel_rfl) (by show 2≤_;decide) rfl ?_
 conv=>whnf
 refine loopS (tyOf_ok _) hmix (by kernel_rfl) m.length [2,8,9,10] [2] (fun k (_:Unit)=>[.ptr 2 0,.p (.sl 1 (m.map eRow)),.p (.i .i64 (m.map eRow).length),.p (.i .i64 (ix k))]) (fun _ _=>[.cells [.p (.s pn),.p (.i .i64 pv),.p (.sl 3 (pu.map elUse)),.p (.sl 3 (pd.map elDt)),.p (.sl 2 (pt.map elTr)),.p (.sl 3 (pi'.map elIm)),.p (.sl 15 (pf.map elFu)),.p (.sl 14 (pa.map elAc))]]) (fun k _=>headsF (sgOf pd) (m.drop k)=R) () ⟨rfl,rfl,rfl,rfl⟩ hR ?_
 rintro k _ hk hs
 conv=>whnf
 refine asplit ?_ ?_<;>intro h1<;>conv=>whnf
 ·have hk1:=ix_tt h1 (by rw[List.length_map]) hk (by omega)
  obtain⟨b,hb⟩:∃b,m[k]?=some b:=⟨_,List.getElem?_eq_getElem hk1⟩
  have hnb:=hne b (List.mem_of_getElem? hb)
  cases b with
  |nil=>exact absurd rfl hnb
  |cons x t=>
  rw[drop_cons hb,headsF_cons]at hs
  refine aidxk (eRow_cons hb) (by omega) ?_
  have hmx:=hmk x.text
  obtain⟨bk,bn,bt,bx⟩:=x
  simp only[Pt.kind,Pt.text]at hs hmx
  generalize makesF (sgOf pd) bt=mx at hs hmx
  conv=>whnf
  refine aidxn (i:=0) rfl ?_
  conv=>whnf
  refine asplit ?_ ?_<;>intro h2<;>conv=>whnf
  ·replace h2:(bk==4)=true:=h2
   rw[h2,cond_true]at hs
   subst hs
   exact .inr (.inl rfl)
  ·replace h2:(bk==4)=false:=h2
   rw[h2,cond_false]at hs
   refine asplit ?_ ?_<;>intro h3<;>conv=>whnf
   ·replace h3:(bk==6)=true:=h3
    rw[h3,cond_true]at hs
    subst hs
    refine aidxn (i:=0) rfl ?_
    conv=>whnf
    refine apc hmx ?_
    conv=>whnf
    refine aneed (by kernel_rfl) ?_
    conv=>whnf
    exact .inl rfl
   ·replace h3:(bk==6)=false:=h3
    rw[h3,cond_false]at hs
    exact⟨hk1,(),⟨rfl,rfl,rfl,rfl⟩,hs⟩
 ·have hk1:=ix_ff h1 (by rw[List.length_map]) hk (by omega)
  rw[hk1,List.drop_length]at hs
  have hs:none=R:=hs
  subst hs
  exact .inl rfl
end CV
