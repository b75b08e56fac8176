/-
  DERIVED. Contracts of functions that the law reaches, and the law, for every input. No conditions.
-/
import Derived.Test.YtndhaojhhmkfaaaGreatDoorCX5
import Derived.Test.YtndhaojhhmkfaaaGreatDoorPRD
open Go Go.AM Go.Proofs TR
set_option maxRecDepth 100000
namespace CV
def shapesL:Bs:=[109,111,100,117,108,101,32,109,32,49,59,32,100,97,116,97,32,78,97,116,32,61,32,90,101,114,111,32,124,32,78,101,120,116,40,78,97,116,41,59,32,100,97,116,97,32,80,97,105,114,32,61,32,80,97,105,114,40,78,97,116,44,32,98,111,111,108,41,32,124,32,79,110,101,40,105,110,116,41,59,32,97,99,116,111,114,32,65,40,41,58,32,105,110,116,32,61,32,40,41,59]
def sgL (D:Sg):List (List (List UInt8×Nat)):=D.map fun d=>d.map fun x=>(x.1.data.toList,x.2)
theorem sgL_inj {a b:Sg} (h:sgL a=sgL b):a=b:=by
 refine(List.map_inj_right ?_).1 h
 intro x y hxy
 refine(List.map_inj_right ?_).1 hxy
 rintro⟨p,i⟩ ⟨q,j⟩ hpq
 simp only[Prod.mk.injEq]at hpq
 obtain⟨h1,rfl⟩:=hpq
 rw[ByteArray.ext (Array.toList_inj.1 h1)]
def okShapes:Bool:=decide (sgL (sgOf (PA.parseF shapesL).1.datas)=sgL D0)
theorem shapes_ok:okShapes=true:=by kernel_rfl
def okShapes2:Bool:=match PA.programF (TK.readF shapesL).1 shapesL.length 0 with|.ok (pg,_)=>decide (wlPg pg≤1048576)|_=>true
theorem shapes_ok2:okShapes2=true:=by kernel_rfl
theorem pg_of {p:LPg} (h:sgOf p.datas=D0):PgOK p:=by
 have hm:∀d∈p.datas,d.makes.map mkPair∈D0:=fun d hd=>by rw[←h];exact List.mem_map.2 ⟨d,hd,rfl⟩
 have h2:∀d∈D0,d.length=2:=by
  intro d hd
  simp[D0]at hd
  rcases hd with rfl|rfl<;>rfl
 refine⟨?_,fun d hd=>⟨?_,fun m hm'=>?_⟩,?_,fun d hd=>?_⟩
 ·have:(sgOf p.datas).length=2:=by rw[h];rfl
  unfold sgOf at this
  rw[List.length_map]at this
  omega
 ·have:=h2 _ (hm d hd)
  rw[List.length_map]at this
  omega
 ·have:=hd_D0 _ (hm d hd) (mkPair m) (List.mem_map.2 ⟨m,hm',rfl⟩)
  have e:(mkPair m).2=m.ts.length:=rfl
  omega
 ·rw[h];exact hd_D0
 ·rw[h]at hd
  rw[h2 d hd];decide
theorem prog_aux (ev:Value) (t:ByteArray) (p:LPg) (i j:Int) (h:AMem Tryz.prog 19 [.p (.s t)] (PA.hE ev) (PA.vParse (p,i,j)) (PA.hE ev)):
 AMem Tryz.prog 6 [.p (.s t)] (PA.hE ev) (.p (elPg p)) (PA.hE ev):=by
 obtain⟨pn,pv,pu,pd,pt,pi',pf,pa⟩:=p
 unfold PA.hE at h ⊢
 refine AMem.intro (tyOf_ok Tryz.prog) hmix Tryz.func6 rfl (by rfl) (by kernel_rfl) (by show 1≤_;decide) rfl ?_
 conv=>whnf
 refine amc [1000000000] 500 h ?_
 conv=>whnf
 exact⟨.inl rfl,⟨rfl,rfl⟩,trivial⟩
theorem shapes_spec (ev:Value) (hev:ev=.nilIface∨∃te pe,ev=.iface te pe):∃p:LPg,sgOf p.datas=D0∧p.datas.length=2∧
 AMem Tryz.prog 6 [.p (.s (B shapesL))] (PA.hE ev) (.p (elPg p)) (PA.hE ev):=by
 have h:=PA.parse_at ev hev shapesL (fun pg b hq=>by
  have:=shapes_ok2
  unfold okShapes2 at this
  rw[hq]at this
  exact of_decide_eq_true this)
 have hq:=shapes_ok
 unfold okShapes at hq
 replace hq:=sgL_inj (of_decide_eq_true hq)
 generalize PA.parseF shapesL=x at h hq
 obtain⟨p,i,j⟩:=x
 refine⟨p,hq,?_,prog_aux ev _ p i j h⟩
 have:(sgOf p.datas).length=2:=by rw[hq];rfl
 unfold sgOf at this
 rwa [List.length_map]at this
end CV
open Go Go.AM Go.Proofs TR
set_option maxRecDepth 100000
namespace CV
theorem AMem.nilOrNot {P:Program} {f:Nat} {pre post:List AV} {sz:Nat} {hs h':Heap} {r:AV} (h1:AMem P f (pre++.nilS::post) hs r h') (h2:AMem P f (pre++.es sz::post) hs r h'):AMem P f (pre++.p (.sl sz [])::post) hs r h':=by
 refine⟨h1.1,fun g w vs hh hbn hl hrel=>?_⟩
 have hlen:pre.length<vs.length:=by rw[hl];simp
 have hv:vs[pre.length]?=some vs[pre.length]:=List.getElem?_eq_getElem hlen
 have hr:=(hrel pre.length _ (.p (.sl sz [])) hv (by simp)).pv
 have other:∀(y:AV),VRel g w (domOf hs) none vs[pre.length] y→∀(j:Nat) (v:Value) (x:AV),vs[j]?=some v→(pre++y::post)[j]?=some x→VRel g w (domOf hs) none v x:=by
  intro y hy j v x q1 q2
  by_cases hj:j=pre.length
  ·subst hj
   rw[hv]at q1;cases q1
   simp at q2;subst q2;exact hy
  ·refine hrel j v x q1 ?_
   rw[←q2]
   rcases Nat.lt_or_gt_of_ne hj with q|q
   ·rw[List.getElem?_append_left q,List.getElem?_append_left q]
   ·rw[List.getElem?_append_right (by omega),List.getElem?_append_right (by omega)]
    obtain⟨i,hi⟩:∃i,j-pre.length=i+1:=⟨j-pre.length-1,by omega⟩
    rw[hi];simp
 generalize hval:vs[pre.length]=u at hr
 cases hr with
 |nil=>exact h1.2 g w vs hh hbn (by rw[hl];simp) (other .nilS (by rw[hval];exact .nilS _))
 |sl a cap _ _ f hs=>exact h2.2 g w vs hh hbn (by rw[hl];simp) (other (.es sz) (by rw[hval];exact .es _ a cap sz hs))
theorem cloneOwn_spec (l:List Pt) (h:l.length≤1000000):AMem Tryz.prog 16 [.p (.sl 4 (ePs l))] [] (.so 4 (ePs l)) []:=by
 cases l with
 |nil=>
  refine AMem.nilOrNot (pre:=[]) (post:=[]) (sz:=4) ?_ ?_
  ·refine AMem.intro (tyOf_ok Tryz.prog) hmix Tryz.func16 rfl (by rfl) (by kernel_rfl) (by show 1≤_;decide) rfl ?_
   conv=>whnf
   exact⟨.inl rfl,trivial⟩
  ·refine AMem.intro (tyOf_ok Tryz.prog) hmix Tryz.func16 rfl (by rfl) (by kernel_rfl) (by show 1≤_;decide) rfl ?_
   conv=>whnf
   refine aneed (by decide) ?_
   conv=>whnf
   exact⟨.inl rfl,trivial⟩
 |cons a r=>
  refine AMem.intro (tyOf_ok Tryz.prog) hmix Tryz.func16 rfl (by rfl) (by kernel_rfl) (by show 1≤_;decide) rfl ?_
  conv=>whnf
  refine aneed (show(([]:List PV).length+(ePs (a::r)).length)*56≤140737488355328 by rw[ePs_len];simp at h ⊢;omega) ?_
  conv=>whnf
  exact⟨.inl rfl,trivial⟩
end CV
open Go Go.AM Go.Proofs TR
set_option maxRecDepth 100000
namespace CV
def eI (l:List Int):List PV:=l.map (PV.i .i64)
theorem eI_len (l:List Int):(eI l).length=l.length:=by unfold eI;simp
theorem eI_get {l:List Int} {k:Nat} {i:Int} (h:l[k]?=some i):(eI l)[k]?=some (.i .i64 i):=by unfold eI;rw[List.getElem?_map,h];rfl
theorem eI_take (l:List Int) (k:Nat):(eI l).take k=eI (l.take k):=by unfold eI;rw[List.map_take]
theorem cut_take (ks:List Int) (n:Nat) (m:Int) (hm:m=n):List.drop (Int.toNat 0) (List.take (if m<((eI ks).length:Int) then m else ((eI ks).length:Int)).toNat (eI ks))=eI (ks.take n):=by
 subst hm
 have e:List.take (if (n:Int)<((eI ks).length:Int) then (n:Int) else ((eI ks).length:Int)).toNat (eI ks)=eI (ks.take n):=by
  rw[←eI_take]
  by_cases h:(n:Int)<((eI ks).length:Int)
  ·rw[if_pos h,Int.toNat_natCast]
  ·rw[if_neg h,Int.toNat_natCast,List.take_length,List.take_of_length_le (by omega)]
 rw[e];rfl
theorem good_nexts:∀(n:Nat) (p:Pt),good p=true→good (nextsF n p)=true
 |0,_,h=>h
 |n+1,p,h=>good_nexts n (mkNext p) (by rw[mkNext,good_mk];exact⟨by decide,by simp,by simpa using h⟩)
theorem good_nat (k:Int):good (natF k)=true:=by
 unfold natF
 refine good_nexts _ _ ?_
 cases k.tmod 2==0<;>rfl
theorem good_flag (k:Int):good (flagF k)=true:=by
 unfold flagF
 cases witF (k.tdiv 60) 3==2
 ·rw[cond_false,boolP,good_mk];exact⟨by decide,by simp,by simp⟩
 ·rfl
theorem good_pair (k:Int):good (pairPF k)=true:=by
 have h1:=good_nat (witF (k.tdiv 5) 12)
 have h2:=good_flag k
 unfold pairPF
 cases witF k 5==0
 ·rw[cond_false]
  cases witF k 5==1
  ·rw[cond_false]
   cases witF k 5==2
   ·rw[cond_false,good_mk]
    refine⟨by decide,by simp,fun x hx=>?_⟩
    simp at hx
    rcases hx with rfl|rfl
    ·exact h1
    ·exact h2
   ·rfl
  ·rw[cond_true,good_mk]
   refine⟨by decide,by simp,fun x hx=>?_⟩
   simp at hx
   subst hx
   rw[good_mk]
   exact⟨by decide,by simp,by simp⟩
 ·rfl
structure LOK (l:List Pt) (n:Nat):Prop where
 ok:∀x∈l,okP .pair x
 good:∀x∈l,good x=true
 len:l.length≤n
 sz:szs l≤n*6
theorem lok_map (ks:List Int) {n:Nat} (h:ks.length≤n):LOK (ks.map pairPF) n:=by
 refine⟨fun x hx=>?_,fun x hx=>?_,by simpa using h,?_⟩
 ·obtain⟨k,_,rfl⟩:=List.mem_map.1 hx;exact pairP_ok k
 ·obtain⟨k,_,rfl⟩:=List.mem_map.1 hx;exact good_pair k
 ·have:=szs_le (l:=ks.map pairPF) (N:=6) (fun x hx=>by obtain⟨k,_,rfl⟩:=List.mem_map.1 hx;exact pairP_sz k)
  rw[List.length_map]at this
  omega
theorem ePs_snoc' (l:List Int) {k:Nat} {a:Int} (h:l[k]?=some a):ePs ((l.take (k+1)).map pairPF)=ePs ((l.take k).map pairPF)++[eP (pairPF a)]:=by
 rw[take_snoc' h,List.map_append,ePs_app];rfl
theorem usl_len:∀{l:List Pt} {pre:List Pt} {i:Nat} {t:List Nat},uslF D0 FU pre l i=some t→t.length≤l.length
 | [],pre,i,t,h=>by rw[uslF]at h;cases h;simp
 |x::r,pre,i,t,h=>by
  rw[uslF]at h
  cases hq:usefF D0 FU (colF pre) [x] with
  |none=>rw[hq]at h;cases h
  |some b=>
   rw[hq]at h
   simp only at h
   cases hq2:uslF D0 FU (pre++[x]) r (i+1) with
   |none=>rw[hq2]at h;cases h
   |some t2=>
    rw[hq2]at h
    simp only[Option.some.injEq]at h
    have:=usl_len hq2
    cases b<;>simp at h<;>subst h<;>simp<;>omega
end CV
