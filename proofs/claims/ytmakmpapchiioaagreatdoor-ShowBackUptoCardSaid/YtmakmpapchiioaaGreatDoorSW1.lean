/-
  DERIVED. Contracts of functions that the law reaches, and the law, for every input. No conditions.
-/
import Derived.Test.YtmakmpapchiioaaGreatDoorSWL
import Derived.Test.YtmakmpapchiioaaGreatDoorSWA
import Derived.Test.YtmakmpapchiioaaGreatDoorTK9
import Derived.Test.YtmakmpapchiioaaGreatDoorSHA
open Go Go.AM Go.Proofs Go.RowKit
set_option maxRecDepth 100000
namespace TK
theorem cell_lt {w:World} {a:Addr} {v:Value} (h:w.cell? a=some v) (hs:a.spot=none):a.block<w.heap.size:=by
 unfold World.cell? at h
 split at h
 ·rename_i hb
  exact(Array.getElem?_eq_some_iff.1 hb).1
 ·cases h
theorem ext_below {g:Gh} {w w':World} (hno:∀b,g.own b=none) (h:Below w.heap.size w w'):Ext g w g w':=by
 refine⟨h.size,h.os,h.output,fun b o v hv=>?_,fun b hb ho=>⟨h.block b hb,rfl,ho⟩,trivial,fun a ha=>?_,fun _ _=>rfl,fun b cs E hb=>⟨cs,E,?_,rfl⟩⟩
 ·unfold Go.AM.imm at hv ⊢
  split at hv
  ·rename_i hp
   rw[if_pos hp]
   have hlt:=cell_lt hv rfl
   unfold World.cell? at hv ⊢
   rw[h.block b hlt];exact hv
  ·cases hv
 ·unfold World.frozen?
  rw[h.block _ ha]
 ·rw[h.block b (Array.getElem?_eq_some_iff.1 hb).1];exact hb
theorem join_spec (xs:List Bs) (sep:Bs) (hn:xs.length≤1048576) (hl:(Lib.join xs sep).length≤140737488355328):APure Tryz.prog 88 [.p (.sl 1 (xs.map eStr)),.p (.s (B sep))] (.p (.s (B (Lib.join xs sep)))):=by
 refine⟨body_of Tryz.func88 rfl (by rfl),fun g w us hno hlen hrel=>?_⟩
 match us,hlen with
 | [u,v],_=>
 have r1:=(hrel 0 u _ rfl rfl).pv
 have r2:=(hrel 1 v _ rfl rfl).pv
 cases r2
 have hx:(xs.map B).map (·.data.toList)=xs:=by
  rw[List.map_map]
  conv=>rhs;rw[←List.map_id xs]
  exact List.map_congr_left fun x _=>B_data x
 have fin:∀w',Below w.heap.size w w'→∀s:ByteArray,s=B (Lib.join xs sep)→∃v g',Ending.returned (.string s)=.returned v∧VRel g' w' (fun _=>False) (some .ret) v (.p (.s (B (Lib.join xs sep))))∧Ext g w g' w':=by
  intro w' hb s hs
  subst hs
  exact⟨_,g,rfl,.p _ _ _ (.s _),ext_below hno hb⟩
 have nilc:∀(a:Option Addr) (c:Nat),xs=[]→Calls Tryz.prog 88 #[.slice a 0 c,.string (B sep)] w fun en w'=>∃v g',en=.returned v∧VRel g' w' (fun _=>False) (some .ret) v (.p (.s (B (Lib.join xs sep))))∧Ext g w g' w':=by
  intro a c hxs
  refine(Any.strings_Join_none Tryz.lays156 Tryz.Builder_Extra_156 a c (B sep) w).mono ?_
  rintro e w' ⟨rfl,rfl⟩
  exact fin _ (Below.refl _ _) _ (by rw[hxs];rfl)
 generalize hq:(PV.sl 1 (xs.map eStr))=q at r1
 cases r1 with
 |b x=>cases hq
 |i k n=>cases hq
 |s x=>cases hq
 |agg vs xs'=>cases hq
 |nil sz=>
  simp only[PV.sl.injEq]at hq
  exact nilc none 0 (by simpa using hq.2)
 |sl a cap sz ys f hs hc hz hm hxx=>
  simp only[PV.sl.injEq]at hq
  obtain⟨rfl,rfl⟩:=hq
  by_cases h0:xs=[]
  ·have:=nilc (some a) cap h0
   rw[h0]
   rw[h0]at this
   exact this
  ·have hpos:0<xs.length:=by cases xs with|nil=>exact absurd rfl h0|cons _ _=>simp
   rw[List.length_map]at hc
   have hsp:=hs (by omega)
   obtain⟨bk,o,spot⟩:=a
   simp only at hsp
   subst hsp
   have hcells:∀(j:Nat) x,(xs.map B)[j]?=some x→w.cell? ⟨bk,o+j,none⟩=some (.string x):=by
    intro j x hj
    rw[List.getElem?_map]at hj
    cases hxj:xs[j]? with
    |none=>simp[hxj]at hj
    |some y=>
     simp only[hxj,Option.map_some,Option.some.injEq]at hj
     subst hj
     have e1:(xs.map eStr)[j]?=some (eStr y):=by rw[List.getElem?_map,hxj];rfl
     have p1:=(hm j _ e1 0 (eStr y) rfl).1
     have p2:=hxx j _ e1 0 (eStr y) rfl
     have:f j 0=.string (B y):=by
      generalize f j 0=z at p2
      cases p2;rfl
     rw[this]at p1
     unfold Go.AM.imm at p1
     split at p1
     ·rw[show o+j=o+j*1+0 by omega];exact p1
     ·cases p1
   have hbk:bk<w.heap.size:=by
    obtain⟨y,hy⟩:∃y,(xs.map B)[0]?=some y:=⟨_,List.getElem?_eq_getElem (by simpa using hpos)⟩
    exact cell_lt (hcells 0 y hy) rfl
   have:=Any.strings_Join Tryz.lays156 Tryz.Builder_Extra_156 bk o cap (xs.map B) (B sep) w hcells hbk (by simp;omega) (by simpa using hc) (by rw[hx,B_data];exact hl)
   rw[hx,B_data,List.length_map]at this
   rw[List.length_map]
   refine this.mono ?_
   rintro e w' ⟨rfl,hb⟩
   exact fin _ hb _ rfl
end TK
open Go Go.AM Go.Proofs TR
set_option maxRecDepth 100000
namespace SW
open SH
theorem com_cons (x:Bs) (l:List Bs):(com (x::l)).length≤x.length+(l.map fun y=>y.length+2).sum:=by
 unfold com
 rw[Lib.join_cons,List.length_append]
 have:(Lib.joinTail [44,32] l).length=(l.map fun y=>y.length+2).sum:=by
  unfold Lib.joinTail
  induction l with
  |nil=>rfl
  |cons y r ih=>rw[List.map_cons,List.flatten_cons,List.length_append,ih,List.map_cons,List.sum_cons,List.length_append];simp;omega
 omega
theorem com_len {α:Type} (f:α→Bs) (w:α→Nat) (c:Nat):∀(l:List α),(∀x∈l,(f x).length+2≤c*w x)→(com (l.map f)).length≤c*(l.map w).sum
 | [],_=>by simp[com,Lib.join_nil]
 |x::r,h=>by
  have h1:=com_cons (f x) (r.map f)
  have h2:∀(r:List α),(∀x∈r,(f x).length+2≤c*w x)→((r.map f).map fun y=>y.length+2).sum≤c*(r.map w).sum:=by
   intro r
   induction r with
   |nil=>intro _;simp
   |cons y q ih=>
    intro hq
    rw[List.map_cons,List.map_cons,List.sum_cons,List.map_cons,List.sum_cons,Nat.mul_add]
    have:=hq y (by simp)
    have:=ih (fun z hz=>hq z (by simp[hz]))
    omega
  have h3:=h2 r (fun y hy=>h y (by simp[hy]))
  have h4:=h x (by simp)
  rw[List.map_cons,List.map_cons,List.sum_cons,Nat.mul_add]
  omega
theorem wts_sum {α:Type} (e:α→PV):∀(l:List α),PV.wts (l.map e)=(l.map fun x=>PV.wt (e x)).sum
 | []=>by simp[PV.wts]
 |x::r=>by rw[List.map_cons,PV.wts,wts_sum e r,List.map_cons,List.sum_cons]
theorem split_len {xs:List Bs}:(com xs.dropLast).length+(xs.getLastD []).length≤(com xs).length:=by
 rcases List.eq_nil_or_concat xs with rfl|⟨l,t,rfl⟩
 ·simp[com,Lib.join_nil]
 ·rw[List.concat_eq_append,List.dropLast_concat,getLastD_app]
  cases l with
  |nil=>simp[com,Lib.join_one,Lib.join_nil]
  |cons x r=>
   unfold com
   rw[List.cons_append,Lib.join_cons,Lib.join_cons,Lib.joinTail,Lib.joinTail,List.map_append,List.flatten_append]
   simp;omega
theorem tl_T (t:Ty):(txT t).length+2≤32*wT t:=by
 refine Ty.ind (Q:=fun t=>(txT t).length+2≤32*wT t) ?_ t
 intro k n xs ih
 have hm:=wT_mk k n xs
 have hc:=com_len txT wT 32 xs ih
 have hs:(xs.map wT).sum=PV.wts (eTs xs):=by rw[eTs_map,wts_sum];rfl
 rw[hs]at hc
 have hd:=split_len (xs:=xs.map txT)
 have hn:=bs_size n
 rw[txT,txTs_map]
 cases k==1 with
 |true=>simp;omega
 |false=>
 cases k==2 with
 |true=>simp;omega
 |false=>
 cases k==3 with
 |true=>simp;omega
 |false=>
 cases k==4 with
 |true=>simp;omega
 |false=>
 cases k==5 with
 |true=>simp only[cond_false,cond_true];omega
 |false=>
 cases k==6 with
 |true=>
  simp only[cond_false,cond_true]
  cases xs.length==0 with
  |true=>simp only[cond_true];omega
  |false=>simp only[cond_false,List.length_append,List.length_cons,List.length_nil];omega
 |false=>
 cases k==7 with
 |true=>
  simp only[cond_false,cond_true]
  cases xs.length==0 with
  |true=>simp;omega
  |false=>simp only[cond_false,List.length_append,List.length_cons,List.length_nil];omega
 |false=>
 cases k==8 with
 |true=>simp only[cond_false,cond_true,List.length_append,List.length_cons,List.length_nil];omega
 |false=>
 cases k==9 with
 |true=>simp only[cond_false,cond_true,List.length_append,List.length_cons,List.length_nil];omega
 |false=>simp;omega
theorem catB (a b:Bs):B a++B b=B (a++b):=B_app a b
theorem joinedT_spec (l:List Ty) (hl:l.length≤1048576) (hsz:(com (l.map txT)).length≤140737488355328) (h:∀x∈l,APure Tryz.prog 32 [.p (eT x)] (.p (.s (B (txT x))))):APure Tryz.prog 86 [.p (.sl 3 (eTs l)),.fn 32 [] []] (.p (.s (B (com (l.map txT))))):=by
 refine APure.intro (tyOf_ok Tryz.prog) hmix Tryz.func86 rfl (by rfl) (by kernel_rfl) (by show 2≤_;decide) rfl ?_
 conv=>whnf
 refine lp_nil 5 0 rfl ?_
 refine loopS (tyOf_ok _) hmix (by kernel_rfl) l.length [1,5,8,9,10] [] (fun k (s:List Bs)=>[.fn 32 [] [],.so 1 (s.map TK.eStr),.p (.sl 3 (eTs l)),.p (.i .i64 (eTs l).length),.p (.i .i64 (ix k))]) (fun _ _=>[]) (fun k s=>s=(l.take k).map txT) [] ⟨rfl,rfl,rfl,rfl⟩ (by simp) ?_
 intro k s hk hs
 have hsl:s.length≤1048576:=by rw[hs];simp;omega
 conv=>whnf
 refine asplit ?_ ?_<;>intro h1<;>conv=>whnf
 ·have hk1:=ix_tt h1 (by rw[eTs_len]) hk (by omega)
  obtain⟨b,hb1⟩:∃b,l[k]?=some b:=⟨_,List.getElem?_eq_getElem hk1⟩
  refine aidxk (eTs_get hb1) (by omega) ?_
  have hc:=h b (List.mem_of_getElem? hb1)
  have hts:(l.take (k+1)).map txT=s++[txT b]:=by rw[take_snoc hb1,List.map_append,hs];rfl
  generalize txT b=c at hc hts
  obtain⟨b1,b2,b3⟩:=b
  conv=>whnf
  refine apc hc ?_
  conv=>whnf
  refine aneed (show((s.map TK.eStr).length+1)*16≤140737488355328 by rw[List.length_map];omega) ?_
  conv=>whnf
  refine⟨hk1,_,⟨rfl,?_,rfl,rfl⟩,hts.symm⟩
  rw[List.map_append];rfl
 ·have hk1:=ix_ff h1 (by rw[eTs_len]) hk (by omega)
  have hs2:s=l.map txT:=by rw[hs,hk1,List.take_length]
  subst hs2
  have hj:=TK.join_spec (l.map txT) [44,32] (by rw[List.length_map];exact hl) hsz
  refine apc hj ?_
  conv=>whnf
  exact .inl rfl
end SW
open Go Go.AM Go.Proofs TR
set_option maxRecDepth 100000
namespace SW
open SH
theorem Bbs (s:ByteArray):B (bs s)=s:=(B_of s).symm
theorem Bsz (l:Bs):(B l).size=l.length:=B_size l
theorem type_spec (t:Ty):∀lv,rT t lv=0→wT t≤1048576→APure Tryz.prog 32 [.p (eT t)] (.p (.s (B (txT t)))):=by
 induction t using Ty.ind with
 |h k n xs ih=>
 intro lv h hw
 obtain⟨hk,hl,hg,hx⟩:=rT_inv h
 have h1:=wT_mk k n xs
 have h2:=wTs_len xs
 have htl:=tl_T (.mk k n xs)
 have hic:∀x∈xs,APure Tryz.prog 32 [.p (eT x)] (.p (.s (B (txT x)))):=fun x hx'=>ih x hx' _ (hx x hx') (by have:=wTs_mem hx';omega)
 have hcl:=com_len txT wT 32 xs (fun x _=>tl_T x)
 have hcs:(xs.map wT).sum=PV.wts (eTs xs):=by rw[eTs_map,wts_sum];rfl
 rw[hcs]at hcl
 have hj:=joinedT_spec xs (by omega) (by omega) hic
 have hns:=bs_size n
 rcases (by omega:k=1∨k=2∨k=3∨k=4∨k=5∨k=6∨k=7∨k=8∨k=9) with rfl|rfl|rfl|rfl|rfl|rfl|rfl|rfl|rfl
 ·rw[show txT (.mk 1 n xs)=[105,110,116] by rw[txT];rfl]
  refine APure.intro (tyOf_ok Tryz.prog) hmix Tryz.func32 rfl (by rfl) (by kernel_rfl) (by show 1≤_;decide) rfl ?_
  conv=>whnf
  exact .inl rfl
 ·rw[show txT (.mk 2 n xs)=[98,111,111,108] by rw[txT];rfl]
  refine APure.intro (tyOf_ok Tryz.prog) hmix Tryz.func32 rfl (by rfl) (by kernel_rfl) (by show 1≤_;decide) rfl ?_
  conv=>whnf
  exact .inl rfl
 ·rw[show txT (.mk 3 n xs)=[116,101,120,116] by rw[txT];rfl]
  refine APure.intro (tyOf_ok Tryz.prog) hmix Tryz.func32 rfl (by rfl) (by kernel_rfl) (by show 1≤_;decide) rfl ?_
  conv=>whnf
  exact .inl rfl
 ·rw[show txT (.mk 4 n xs)=[117,110,105,116] by rw[txT];rfl]
  refine APure.intro (tyOf_ok Tryz.prog) hmix Tryz.func32 rfl (by rfl) (by kernel_rfl) (by show 1≤_;decide) rfl ?_
  conv=>whnf
  exact .inl rfl
 ·rw[show txT (.mk 5 n xs)=bs n by rw[txT];rfl,Bbs]
  refine APure.intro (tyOf_ok Tryz.prog) hmix Tryz.func32 rfl (by rfl) (by kernel_rfl) (by show 1≤_;decide) rfl ?_
  conv=>whnf
  exact .inl rfl
 ·rw[txT6]
  cases xs with
  |nil=>
   rw[show(([]:List Ty).length==0)=true from rfl,cond_true,Bbs]
   refine APure.intro (tyOf_ok Tryz.prog) hmix Tryz.func32 rfl (by rfl) (by kernel_rfl) (by show 1≤_;decide) rfl ?_
   conv=>whnf
   exact .inl rfl
  |cons x r=>
   rw[show((x::r).length==0)=false from rfl,cond_false]
   rw[←catB,←catB,←catB,Bbs]
   generalize hq:com (List.map txT (x::r))=q at hj hcl
   refine APure.intro (tyOf_ok Tryz.prog) hmix Tryz.func32 rfl (by rfl) (by kernel_rfl) (by show 1≤_;decide) rfl ?_
   conv=>whnf
   refine aneed (by show n.size+1≤_;omega) ?_
   conv=>whnf
   refine apc hj ?_
   conv=>whnf
   refine aneed (by rw[ByteArray.size_append,Bsz];show n.size+1+_≤_;omega) ?_
   conv=>whnf
   refine aneed (by rw[ByteArray.size_append,ByteArray.size_append,Bsz];show n.size+1+_+1≤_;omega) ?_
   conv=>whnf
   refine aneed (by kernel_rfl) ?_
   conv=>whnf
   exact .inl rfl
 ·have hg:(decide (xs.length>0)&&isS n [])=true:=hg
  rw[Bool.and_eq_true]at hg
  obtain⟨l,t,rfl⟩:=last_app (xs:=xs) (by intro e;rw[e]at hg;exact absurd hg.1 (by decide))
  have hcl2:=split_len (xs:=(l++[t]).map txT)
  rw[List.map_append,List.map_cons,List.map_nil,List.dropLast_concat,getLastD_app]at hcl2
  rw[List.map_append,List.map_cons,List.map_nil]at hcl
  have hjl:=joinedT_spec l (by simp at hl;omega) (by omega) (fun x hx'=>hic x (by simp[hx']))
  have ht:=hic t (by simp)
  rw[txT7,←catB,←catB,←catB]
  generalize txT t=q2 at *
  generalize com (List.map txT l)=q at *
  have htake:(eTs (l++[t])).take l.length=eTs l:=by rw[eTs_app,List.take_append_of_le_length (by rw[eTs_len];omega),List.take_of_length_le (by rw[eTs_len];omega)]
  have hget:(eTs (l++[t]))[l.length]?=some (eT t):=eTs_get (by simp)
  have hwr:IntKind.i64.wrap (((eTs (l++[t])).length:Int)-1)=(l.length:Int):=by rw[eTs_len,List.length_append,List.length_singleton];simp only[List.length_append,List.length_singleton]at hl;rw[wrap64 (by omega) (by omega)];omega
  have hle:(eTs (l++[t])).length=l.length+1:=by rw[eTs_len];simp
  simp only[List.length_append,List.length_singleton]at hl
  refine APure.intro (tyOf_ok Tryz.prog) hmix Tryz.func32 rfl (by rfl) (by kernel_rfl) (by show 1≤_;decide) rfl ?_
  conv=>whnf
  rw[hwr,decide_eq_true (show(l.length:Int)≥0 by omega)]
  conv=>whnf
  refine aneed ⟨by decide,by omega,by rw[hle];omega⟩ ?_
  conv=>whnf
  rw[show List.drop (Int.toNat 0) (List.take ((l.length:Int)).toNat (eTs (l++[t])))=eTs l from htake]
  refine apc hjl ?_
  conv=>whnf
  refine aneed (by rw[Bsz];show 3+_≤_;omega) ?_
  conv=>whnf
  refine aneed (by rw[ByteArray.size_append,Bsz];show 3+_+3≤_;omega) ?_
  conv=>whnf
  obtain⟨t1,t2,t3⟩:=t
  refine aidxi (x:=eT (.mk t1 t2 t3)) (by omega) hget ?_
  conv=>whnf
  refine apc ht ?_
  conv=>whnf
  refine aneed (by rw[ByteArray.size_append,ByteArray.size_append,Bsz,Bsz];show 3+_+3+_≤_;omega) ?_
  conv=>whnf
  refine aneed (by kernel_rfl) ?_
  conv=>whnf
  exact .inl rfl
 ·rw[show txT (.mk 8 n xs)=[82,101,102,40]++com (xs.map txT)++[41] by rw[txT,txTs_map];rfl]
  rw[←catB,←catB]
  generalize com (List.map txT xs)=q at hj hcl
  refine APure.intro (tyOf_ok Tryz.prog) hmix Tryz.func32 rfl (by rfl) (by kernel_rfl) (by show 1≤_;decide) rfl ?_
  conv=>whnf
  refine apc hj ?_
  conv=>whnf
  refine aneed (by rw[Bsz];show 4+_≤_;omega) ?_
  conv=>whnf
  refine aneed (by rw[ByteArray.size_append,Bsz];show 4+_+1≤_;omega) ?_
  conv=>whnf
  exact .inl rfl
 ·rw[show txT (.mk 9 n xs)=[67,101,108,108,40]++com (xs.map txT)++[41] by rw[txT,txTs_map];rfl]
  rw[←catB,←catB]
  generalize com (List.map txT xs)=q at hj hcl
  refine APure.intro (tyOf_ok Tryz.prog) hmix Tryz.func32 rfl (by rfl) (by kernel_rfl) (by show 1≤_;decide) rfl ?_
  conv=>whnf
  refine apc hj ?_
  conv=>whnf
  refine aneed (by rw[Bsz];show 5+_≤_;omega) ?_
  conv=>whnf
  refine aneed (by rw[ByteArray.size_append,Bsz];show 5+_+1≤_;omega) ?_
  conv=>whnf
  exact .inl rfl
end SW
