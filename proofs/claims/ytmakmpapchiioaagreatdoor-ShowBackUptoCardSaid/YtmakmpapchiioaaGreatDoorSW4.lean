/-
  DERIVED. Contracts of functions that the law reaches, and the law, for every input. No conditions.
-/
import Derived.Test.YtmakmpapchiioaaGreatDoorSW1
import Derived.Test.YtmakmpapchiioaaGreatDoorSHE
import Derived.Test.YtmakmpapchiioaaGreatDoorAMGlob
open Go Go.AM Go.Proofs Go.RowKit TR
set_option maxRecDepth 100000
namespace SW
open SH
theorem pow_name:Tryz.prog.globalNamed "internal/strconv.uint64pow10"=some 0:=by kernel_rfl
def powL:List Value:=tabV .u64 Lib.pow10Tab
def hW (tab:List Value):Heap:=[(1000000000,.glob 0 tab)]
def ItoC (tab:List Value):Prop:=∀n,i64 n→AMem Tryz.prog 27 [.p (.i .i64 n)] (hW tab) (.p (.s (B (Lib.itoa n)))) (hW tab)
theorem itoa_spec:ItoC powL:=fun n h=>
 itoa_lift (TK.body_of Tryz.func27 rfl (by rfl)) pow_name n (fun w htab=>Any.strconv_Itoa Tryz.laysM171 n h.1 h.2 w htab)
theorem itoa_len {n:Int} (h:i64 n):(Lib.itoa n).length≤21:=Lib.itoa_length_le n h.1 h.2
theorem params_spec (l:List ByteArray) (hl:l.length≤1048576) (hsz:(com (l.map bs)).length≤1000000000):APure Tryz.prog 87 [.p (.sl 1 (l.map eStr))] (.p (.s (B (paramsB l)))):=by
 have hj:=TK.join_spec (l.map bs) [44,32] (by rw[List.length_map];exact hl) (by show(com (l.map bs)).length≤_;omega)
 rw[show(l.map bs).map TK.eStr=l.map eStr by rw[List.map_map];exact List.map_congr_left fun x _=>by show PV.s (B (bs x))=PV.s x;rw[Bbs]]at hj
 unfold paramsB
 cases l with
 |nil=>
  refine APure.intro (tyOf_ok Tryz.prog) hmix Tryz.func87 rfl (by rfl) (by kernel_rfl) (by show 1≤_;decide) rfl ?_
  conv=>whnf
  exact .inl rfl
 |cons x r=>
  rw[show((x::r).length==0)=false from rfl,cond_false,←catB,←catB]
  unfold com at *
  generalize Lib.join (List.map bs (x::r)) [44,32]=q at *
  refine APure.intro (tyOf_ok Tryz.prog) hmix Tryz.func87 rfl (by rfl) (by kernel_rfl) (by show 1≤_;decide) rfl ?_
  conv=>whnf
  refine apc hj ?_
  conv=>whnf
  refine aneed (by rw[Bsz];show 1+_≤_;omega) ?_
  conv=>whnf
  refine aneed (by rw[ByteArray.size_append,Bsz];show 1+_+1≤_;omega) ?_
  conv=>whnf
  exact .inl rfl
theorem bool_spec (n:Int):APure Tryz.prog 90 [.p (.i .i64 n)] (.p (.s (B (booB n)))):=by
 unfold booB
 generalize hb:(n==0)=b
 cases b with
 |true=>
  refine APure.intro (tyOf_ok Tryz.prog) hmix Tryz.func90 rfl (by rfl) (by kernel_rfl) (by show 1≤_;decide) rfl ?_
  conv=>whnf
  refine ast hb ?_
  conv=>whnf
  exact .inl rfl
 |false=>
  refine APure.intro (tyOf_ok Tryz.prog) hmix Tryz.func90 rfl (by rfl) (by kernel_rfl) (by show 1≤_;decide) rfl ?_
  conv=>whnf
  refine asf hb ?_
  conv=>whnf
  exact .inl rfl
theorem quo_spec (s:Bs):APure Tryz.prog 91 [.p (.s (B s))] (.p (.s (B (quoB s)))):=by
 have h:=TK.quote_spec s
 unfold TK.quoteF at h
 unfold quoB
 cases hd:decide (s.length>64) with
 |true=>
  rw[hd,cond_true]at h
  refine APure.intro (tyOf_ok Tryz.prog) hmix Tryz.func91 rfl (by rfl) (by kernel_rfl) (by show 1≤_;decide) rfl ?_
  conv=>whnf
  refine apc h ?_
  conv=>whnf
  exact .inl rfl
 |false=>
  rw[hd,cond_false]at h
  rw[cond_false]
  generalize TK.quoteL s=q at *
  refine APure.intro (tyOf_ok Tryz.prog) hmix Tryz.func91 rfl (by rfl) (by kernel_rfl) (by show 1≤_;decide) rfl ?_
  conv=>whnf
  refine apc h ?_
  conv=>whnf
  exact .inl rfl
theorem quo_len (s:Bs):(quoB s).length≤4*s.length+2:=by
 unfold quoB
 cases decide (s.length>64) with
 |true=>simp
 |false=>exact TK.quote_len s
theorem boo_len (n:Int):(booB n).length≤5:=by
 unfold booB
 cases n==0<;>simp
theorem tl_P (t:Pt):rgP t→(txP t).length+2≤32*wP t:=by
 refine Pt.ind (Q:=fun t=>rgP t→(txP t).length+2≤32*wP t) ?_ t
 intro k m n xs ih hg
 rw[rgP]at hg
 have hrx:=rgPs_of hg.2
 have hm:=wP_mk k m n xs
 have hc:=com_len txP wP 32 xs (fun x hx=>ih x hx (hrx x hx))
 have hs:(xs.map wP).sum=PV.wts (ePs xs):=by rw[ePs_map,wts_sum];rfl
 rw[hs]at hc
 have hn:=bs_size n
 have h1:=itoa_len hg.1
 have h2:=boo_len m
 have h3:=quo_len (bs n)
 rw[txP,txPs_map]
 cases k==1 with
 |true=>simp;omega
 |false=>
 cases k==2 with
 |true=>simp only[cond_false,cond_true];omega
 |false=>
 cases k==3 with
 |true=>simp only[cond_false,cond_true];omega
 |false=>
 cases k==4 with
 |true=>simp only[cond_false,cond_true];omega
 |false=>
 cases k==5 with
 |true=>simp only[cond_false,cond_true];omega
 |false=>
 cases k==6 with
 |true=>
  simp only[cond_false,cond_true]
  cases xs.length==0 with
  |true=>simp only[cond_true];omega
  |false=>simp only[cond_false,List.length_append,List.length_cons,List.length_nil];omega
 |false=>simp;omega
theorem joinedPt_spec (tab:List Value) (l:List Pt) (hl:l.length≤1048576) (hsz:(com (l.map txP)).length≤140737488355328) (h:∀x∈l,AMem Tryz.prog 135 [.p (eP x)] (hW tab) (.p (.s (B (txP x)))) (hW tab)):AMem Tryz.prog 165 [.p (.sl 4 (ePs l)),.fn 135 [] []] (hW tab) (.p (.s (B (com (l.map txP))))) (hW tab):=by
 unfold hW at *
 refine AMem.intro (tyOf_ok Tryz.prog) hmix Tryz.func165 rfl (by rfl) (by kernel_rfl) (by show 2≤_;decide) rfl ?_
 conv=>whnf
 refine lp_nil 5 0 rfl ?_
 refine loopS (tyOf_ok _) hmix (by kernel_rfl) l.length [1,5,8,9,10] [1000000000] (fun k (s:List Bs)=>[.fn 135 [] [],.so 1 (s.map TK.eStr),.p (.sl 4 (ePs l)),.p (.i .i64 (ePs l).length),.p (.i .i64 (ix k))]) (fun _ _=>[.glob 0 tab]) (fun k s=>s=(l.take k).map txP) [] ⟨rfl,rfl,rfl,rfl⟩ (by simp) ?_
 intro k s hk hs
 have hsl:s.length≤1048576:=by rw[hs];simp;omega
 conv=>whnf
 refine asplit ?_ ?_<;>intro h1<;>conv=>whnf
 ·have hk1:=ix_tt h1 (by rw[ePs_len]) hk (by omega)
  obtain⟨b,hb1⟩:∃b,l[k]?=some b:=⟨_,List.getElem?_eq_getElem hk1⟩
  refine aidxk (ePs_get hb1) (by omega) ?_
  have hc:=h b (List.mem_of_getElem? hb1)
  have hts:(l.take (k+1)).map txP=s++[txP b]:=by rw[take_snoc hb1,List.map_append,hs];rfl
  generalize txP b=c at hc hts
  obtain⟨b1,b2,b3,b4⟩:=b
  conv=>whnf
  refine amc [1000000000] 50 hc ?_
  conv=>whnf
  refine aneed (show((s.map TK.eStr).length+1)*16≤140737488355328 by rw[List.length_map];omega) ?_
  conv=>whnf
  refine⟨hk1,_,⟨rfl,?_,rfl,rfl⟩,hts.symm⟩
  rw[List.map_append];rfl
 ·have hk1:=ix_ff h1 (by rw[ePs_len]) hk (by omega)
  have hs2:s=l.map txP:=by rw[hs,hk1,List.take_length]
  subst hs2
  have hj:=TK.join_spec (l.map txP) [44,32] (by rw[List.length_map];exact hl) hsz
  refine apc hj ?_
  conv=>whnf
  exact⟨.inl rfl,⟨rfl,rfl⟩,trivial⟩
theorem joinedEx_spec (tab:List Value) (l:List Ex) (hl:l.length≤1048576) (hsz:(com (l.map txE)).length≤140737488355328) (h:∀x∈l,AMem Tryz.prog 33 [.p (eE x)] (hW tab) (.p (.s (B (txE x)))) (hW tab)):AMem Tryz.prog 89 [.p (.sl 8 (eEs l)),.fn 33 [] []] (hW tab) (.p (.s (B (com (l.map txE))))) (hW tab):=by
 unfold hW at *
 refine AMem.intro (tyOf_ok Tryz.prog) hmix Tryz.func89 rfl (by rfl) (by kernel_rfl) (by show 2≤_;decide) rfl ?_
 conv=>whnf
 refine lp_nil 5 0 rfl ?_
 refine loopS (tyOf_ok _) hmix (by kernel_rfl) l.length [1,5,8,9,10] [1000000000] (fun k (s:List Bs)=>[.fn 33 [] [],.so 1 (s.map TK.eStr),.p (.sl 8 (eEs l)),.p (.i .i64 (eEs l).length),.p (.i .i64 (ix k))]) (fun _ _=>[.glob 0 tab]) (fun k s=>s=(l.take k).map txE) [] ⟨rfl,rfl,rfl,rfl⟩ (by simp) ?_
 intro k s hk hs
 have hsl:s.length≤1048576:=by rw[hs];simp;omega
 conv=>whnf
 refine asplit ?_ ?_<;>intro h1<;>conv=>whnf
 ·have hk1:=ix_tt h1 (by rw[eEs_len]) hk (by omega)
  obtain⟨b,hb1⟩:∃b,l[k]?=some b:=⟨_,List.getElem?_eq_getElem hk1⟩
  refine aidxk (eEs_get hb1) (by omega) ?_
  have hc:=h b (List.mem_of_getElem? hb1)
  have hts:(l.take (k+1)).map txE=s++[txE b]:=by rw[take_snoc hb1,List.map_append,hs];rfl
  generalize txE b=c at hc hts
  obtain⟨b1,b2,b3,b4,b5,b6,b7,b8⟩:=b
  conv=>whnf
  refine amc [1000000000] 50 hc ?_
  conv=>whnf
  refine aneed (show((s.map TK.eStr).length+1)*16≤140737488355328 by rw[List.length_map];omega) ?_
  conv=>whnf
  refine⟨hk1,_,⟨rfl,?_,rfl,rfl⟩,hts.symm⟩
  rw[List.map_append];rfl
 ·have hk1:=ix_ff h1 (by rw[eEs_len]) hk (by omega)
  have hs2:s=l.map txE:=by rw[hs,hk1,List.take_length]
  subst hs2
  have hj:=TK.join_spec (l.map txE) [44,32] (by rw[List.length_map];exact hl) hsz
  refine apc hj ?_
  conv=>whnf
  exact⟨.inl rfl,⟨rfl,rfl⟩,trivial⟩
end SW
open Go Go.AM Go.Proofs Go.RowKit TR
set_option maxRecDepth 100000
namespace SW
open SH
theorem sz_lit (l:List UInt8):ByteArray.size ⟨l.toArray⟩=l.length:=by simp[ByteArray.size]
theorem jn_len {α:Type} (sep:Bs) (hsep:sep.length≤3) (f:α→Bs) (w:α→Nat) (c:Nat):∀(l:List α),(∀x∈l,(f x).length+3≤c*w x)→(Lib.join (l.map f) sep).length≤c*(l.map w).sum
 | [],_=>by simp[Lib.join_nil]
 |x::r,h=>by
  have h2:∀(r:List α),(∀x∈r,(f x).length+3≤c*w x)→(Lib.joinTail sep (r.map f)).length≤c*(r.map w).sum:=by
   intro r
   induction r with
   |nil=>intro _;simp[Lib.joinTail]
   |cons y q ih=>
    intro hq
    have h1:=hq y (by simp)
    have h3:=ih (fun z hz=>hq z (by simp[hz]))
    unfold Lib.joinTail at h3 ⊢
    rw[List.map_cons,List.map_cons,List.flatten_cons,List.length_append,List.length_append,List.map_cons,List.sum_cons,Nat.mul_add]
    omega
  have h3:=h2 r (fun y hy=>h y (by simp[hy]))
  have h4:=h x (by simp)
  rw[List.map_cons,Lib.join_cons,List.length_append,List.map_cons,List.sum_cons,Nat.mul_add]
  omega
theorem zip_len:∀(ns:List ByteArray) (ts:List Ty),((List.zip ns ts).map fun x=>(PV.wt (eStr x.1))+wT x.2).sum≤PV.wts (ns.map eStr)+PV.wts (eTs ts)
 | [],_=>by simp
 |_::_,[]=>by simp
 |n::ns,t::ts=>by
  have:=zip_len ns ts
  simp only[List.zip_cons_cons,List.map_cons,List.sum_cons,PV.wts,eTs]
  unfold wT at *
  omega
def nmB (s:ByteArray) (t:Ty):Bs:=bs s++[58,32]++txT t
theorem zipB (ns:List ByteArray) (ts:List Ty):List.zipWith (fun s t=>bs s++[58,32]++txT t) ns ts=(List.zip ns ts).map fun x=>nmB x.1 x.2:=by
 rw[List.map_zip_eq_zipWith];rfl
theorem names_len (ns:List ByteArray) (ts:List Ty):(namesB ns ts).length≤32*(PV.wts (ns.map eStr)+PV.wts (eTs ts))+2:=by
 have h:=zip_len ns ts
 have hj:=jn_len [44,32] (by decide) (fun x:ByteArray×Ty=>nmB x.1 x.2) (fun x=>PV.wt (eStr x.1)+wT x.2) 32 (List.zip ns ts) (fun x _=>by
  have h1:=tl_T x.2
  have h2:=bs_size x.1
  unfold nmB
  simp only[List.length_append,List.length_cons,List.length_nil]
  show _≤32*(x.1.size+1+wT x.2)
  omega)
 unfold namesB com
 rw[zipB]
 simp only[List.length_append,List.length_cons,List.length_nil]
 have:=Nat.mul_le_mul_left 32 h
 omega
theorem names_spec (ns:List ByteArray) (ts:List Ty) (hl:ns.length=ts.length) (ht:∀t∈ts,rT t 1=0) (hw:PV.wts (ns.map eStr)+PV.wts (eTs ts)≤1048576):APure Tryz.prog 31 [.p (.sl 1 (ns.map eStr)),.p (.sl 3 (eTs ts))] (.p (.s (B (namesB ns ts)))):=by
 have hnl:=names_len ns ts
 have hlt:=wTs_len ts
 have hq:(List.zipWith nmB ns ts).length=ns.length:=by rw[List.length_zipWith,hl,Nat.min_self]
 have e1:B (namesB ns ts)=⟨#[40]⟩++B (com (List.zipWith nmB ns ts))++⟨#[41]⟩:=by
  show B ([40]++com (List.zipWith nmB ns ts)++[41])=_
  rw[←catB,←catB];rfl
 have hcl:(com (List.zipWith nmB ns ts)).length≤1000000000:=by
  have:(namesB ns ts).length=1+(com (List.zipWith nmB ns ts)).length+1:=by
   show([40]++com (List.zipWith nmB ns ts)++[41]).length=_
   simp only[List.length_append,List.length_cons,List.length_nil]
  omega
 have hj:=TK.join_spec (List.zipWith nmB ns ts) [44,32] (by rw[hq];omega) (by show(com (List.zipWith nmB ns ts)).length≤_;omega)
 rw[e1]
 refine APure.intro (tyOf_ok Tryz.prog) hmix Tryz.func31 rfl (by rfl) (by kernel_rfl) (by show 2≤_;decide) rfl ?_
 conv=>whnf
 refine lp_nil 5 0 rfl ?_
 refine loopS (tyOf_ok _) hmix (by kernel_rfl) ns.length [1,5,8,9,10] [] (fun k (s:List Bs)=>[.p (.sl 3 (eTs ts)),.so 1 (s.map TK.eStr),.p (.sl 1 (ns.map eStr)),.p (.i .i64 (ns.map eStr).length),.p (.i .i64 (ix k))]) (fun _ _=>[]) (fun k s=>s=(List.zipWith nmB ns ts).take k) [] ⟨rfl,rfl,rfl,rfl⟩ (by simp) ?_
 intro k s hk hs
 have hsl:s.length≤1048576:=by rw[hs,List.length_take];omega
 conv=>whnf
 refine asplit ?_ ?_<;>intro h1<;>conv=>whnf
 ·have hk1:=ix_tt h1 (by simp) hk (by omega)
  obtain⟨b,hb1⟩:∃b,ns[k]?=some b:=⟨_,List.getElem?_eq_getElem hk1⟩
  obtain⟨t,ht1⟩:∃b,ts[k]?=some b:=⟨_,List.getElem?_eq_getElem (by omega)⟩
  refine aidxk (x:=eStr b) (by simp[hb1]) (by omega) ?_
  have hwt:=wTs_mem (List.mem_of_getElem? ht1)
  have hwn:PV.wt (eStr b)≤PV.wts (ns.map eStr):=wts_mem (List.mem_map.2 ⟨b,List.mem_of_getElem? hb1,rfl⟩)
  have hwb:b.size+1≤1048576:=by have:PV.wt (eStr b)=b.size+1:=rfl
                                omega
  have hc:=type_spec t 1 (ht t (List.mem_of_getElem? ht1)) (by omega)
  have htl:=tl_T t
  have hts:(List.zipWith nmB ns ts).take (k+1)=s++[nmB b t]:=by
   rw[List.take_add_one,hs]
   congr 1
   rw[List.getElem?_zipWith,hb1,ht1];rfl
  have e2:PV.s (b++⟨#[58,32]⟩++B (txT t))=TK.eStr (nmB b t):=by
   show _=PV.s (B (bs b++[58,32]++txT t))
   rw[←catB,←catB,Bbs];rfl
  have hget:=eTs_get ht1
  generalize txT t=q at *
  generalize nmB b t=z at *
  have h5:List.map TK.eStr (s++[z])=s.map TK.eStr++[PV.s (b++⟨#[58,32]⟩++B q)]:=by rw[List.map_append,e2];rfl
  conv=>whnf
  refine aneed (by simp only[ByteArray.size_append,Bsz,sz_lit,List.length_cons,List.length_nil];omega) ?_
  conv=>whnf
  refine aidxk hget (by omega) ?_
  obtain⟨t1,t2,t3⟩:=t
  conv=>whnf
  refine apc hc ?_
  conv=>whnf
  refine aneed (by simp only[ByteArray.size_append,Bsz,sz_lit,List.length_cons,List.length_nil];omega) ?_
  conv=>whnf
  refine aneed (show((s.map TK.eStr).length+1)*16≤140737488355328 by rw[List.length_map];omega) ?_
  conv=>whnf
  refine⟨hk1,_,⟨rfl,?_,rfl,rfl⟩,hts.symm⟩
  rw[h5];rfl
 ·have hk1:=ix_ff h1 (by simp) hk (by omega)
  have hs2:s=List.zipWith nmB ns ts:=by rw[hs,hk1,List.take_of_length_le (by omega)]
  subst hs2
  unfold com at hcl ⊢
  generalize Lib.join (List.zipWith nmB ns ts) [44,32]=q at *
  refine apc hj ?_
  conv=>whnf
  refine aneed (by simp only[ByteArray.size_append,Bsz,sz_lit,List.length_cons,List.length_nil];omega) ?_
  conv=>whnf
  refine aneed (by simp only[ByteArray.size_append,Bsz,sz_lit,List.length_cons,List.length_nil];omega) ?_
  conv=>whnf
  exact .inl rfl
theorem called_spec (k:Int) (hk:k=11∨k=15∨k=17∨k=19∨k=20∨k=21∨k=22∨k=23∨k=24∨k=25):APure Tryz.prog 93 [.p (.i .i64 k)] (.p (.s (B (calledB k)))):=by
 rcases hk with rfl|rfl|rfl|rfl|rfl|rfl|rfl|rfl|rfl|rfl
 all_goals
  refine APure.intro (tyOf_ok Tryz.prog) hmix Tryz.func93 rfl (by rfl) (by kernel_rfl) (by show 1≤_;decide) rfl ?_
  conv=>whnf
  exact .inl rfl
end SW
open Go Go.AM Go.Proofs Go.RowKit TR
set_option maxRecDepth 100000
namespace SW
open SH
theorem pat_spec {tab:List Value} (hI:ItoC tab) (t:Pt):rP t=0→rgP t→wP t≤1048576→AMem Tryz.prog 135 [.p (eP t)] (hW tab) (.p (.s (B (txP t)))) (hW tab):=by
 induction t using Pt.ind with
 |h k m n xs ih=>
 intro h hg hw
 obtain⟨h5,hk,ht,hnm,hx0,hl,hx⟩:=rP_inv h
 have htl:=tl_P _ hg
 rw[rgP]at hg
 have hrx:=rgPs_of hg.2
 have h1:=wP_mk k m n xs
 have hic:=fun x hx'=>ih x hx' (hx x hx') (hrx x hx') (by have:=wPs_mem hx';omega)
 have hcl:=com_len txP wP 32 xs (fun x hx'=>tl_P x (hrx x hx'))
 have hcs:(xs.map wP).sum=PV.wts (ePs xs):=by rw[ePs_map,wts_sum];rfl
 rw[hcs]at hcl
 have hj:=joinedPt_spec tab xs (by omega) (by omega) hic
 have hns:=bs_size n
 unfold hW at *
 rcases (by omega:k=1∨k=2∨k=3∨k=4∨k=5∨k=6) with rfl|rfl|rfl|rfl|rfl|rfl
 ·rw[show txP (.mk 1 m n xs)=[95] by rw[txP];rfl]
  refine AMem.intro (tyOf_ok Tryz.prog) hmix Tryz.func135 rfl (by rfl) (by kernel_rfl) (by show 1≤_;decide) rfl ?_
  conv=>whnf
  exact⟨.inl rfl,⟨rfl,rfl⟩,trivial⟩
 ·rw[show txP (.mk 2 m n xs)=bs n by rw[txP];rfl,Bbs]
  refine AMem.intro (tyOf_ok Tryz.prog) hmix Tryz.func135 rfl (by rfl) (by kernel_rfl) (by show 1≤_;decide) rfl ?_
  conv=>whnf
  exact⟨.inl rfl,⟨rfl,rfl⟩,trivial⟩
 ·rw[show txP (.mk 3 m n xs)=Lib.itoa m by rw[txP];rfl]
  have hc:=hI m hg.1
  unfold hW at hc
  generalize Lib.itoa m=q at *
  refine AMem.intro (tyOf_ok Tryz.prog) hmix Tryz.func135 rfl (by rfl) (by kernel_rfl) (by show 1≤_;decide) rfl ?_
  conv=>whnf
  refine amc [1000000000] 100 hc ?_
  conv=>whnf
  exact⟨.inl rfl,⟨rfl,rfl⟩,trivial⟩
 ·rw[show txP (.mk 4 m n xs)=booB m by rw[txP];rfl]
  have hc:=bool_spec m
  generalize booB m=q at *
  refine AMem.intro (tyOf_ok Tryz.prog) hmix Tryz.func135 rfl (by rfl) (by kernel_rfl) (by show 1≤_;decide) rfl ?_
  conv=>whnf
  refine apc hc ?_
  conv=>whnf
  exact⟨.inl rfl,⟨rfl,rfl⟩,trivial⟩
 ·rw[show txP (.mk 5 m n xs)=quoB (bs n) by rw[txP];rfl]
  have hc:=quo_spec (bs n)
  rw[Bbs]at hc
  generalize quoB (bs n)=q at *
  refine AMem.intro (tyOf_ok Tryz.prog) hmix Tryz.func135 rfl (by rfl) (by kernel_rfl) (by show 1≤_;decide) rfl ?_
  conv=>whnf
  refine apc hc ?_
  conv=>whnf
  exact⟨.inl rfl,⟨rfl,rfl⟩,trivial⟩
 ·rw[txP6]
  cases xs with
  |nil=>
   rw[show(([]:List Pt).length==0)=true from rfl,cond_true,Bbs]
   refine AMem.intro (tyOf_ok Tryz.prog) hmix Tryz.func135 rfl (by rfl) (by kernel_rfl) (by show 1≤_;decide) rfl ?_
   conv=>whnf
   exact⟨.inl rfl,⟨rfl,rfl⟩,trivial⟩
  |cons x r=>
   rw[show((x::r).length==0)=false from rfl,cond_false]
   rw[←catB,←catB,←catB,Bbs]
   generalize com (List.map txP (x::r))=q at hj hcl
   refine AMem.intro (tyOf_ok Tryz.prog) hmix Tryz.func135 rfl (by rfl) (by kernel_rfl) (by show 1≤_;decide) rfl ?_
   conv=>whnf
   refine aneed (by simp only[ByteArray.size_append,Bsz,sz_lit,List.length_cons,List.length_nil];omega) ?_
   conv=>whnf
   refine amc [1000000000] 100 hj ?_
   conv=>whnf
   refine aneed (by simp only[ByteArray.size_append,Bsz,sz_lit,List.length_cons,List.length_nil];omega) ?_
   conv=>whnf
   refine aneed (by simp only[ByteArray.size_append,Bsz,sz_lit,List.length_cons,List.length_nil];omega) ?_
   conv=>whnf
   refine aneed (by kernel_rfl) ?_
   conv=>whnf
   exact⟨.inl rfl,⟨rfl,rfl⟩,trivial⟩
theorem called_len (k:Int):(calledB k).length≤6:=by
 unfold calledB
 cases k==11 with
 |true=>simp
 |false=>
 cases k==15 with
 |true=>simp
 |false=>
 cases k==17 with
 |true=>simp
 |false=>
 cases k==19 with
 |true=>simp
 |false=>
 cases k==20 with
 |true=>simp
 |false=>
 cases k==21 with
 |true=>simp
 |false=>
 cases k==22 with
 |true=>simp
 |false=>
 cases k==23 with
 |true=>simp
 |false=>
 cases k==24 with
 |true=>simp
 |false=>simp
theorem getD_len (l:List Bs) (i:Nat):(l.getD i []).length≤(l.map (·.length)).sum:=by
 induction l generalizing i with
 |nil=>simp
 |cons x r ih=>
  cases i with
  |zero=>simp
  |succ i=>have:=ih i;simp only[List.getD_cons_succ,List.map_cons,List.sum_cons];omega
theorem tl_E (e:Ex):rgE e→(txE e).length+3≤64*wE e:=by
 refine Ex.ind (Q:=fun e=>rgE e→(txE e).length+3≤64*wE e) ?_ e
 intro k m t ns ts xs ms p ih1 ih2 hg
 rw[rgE]at hg
 have hgx:=rgEs_of hg.2.1
 have hgm:=rgAs_of hg.2.2
 have hw:=wE_mk k m t ns ts xs ms p
 have hA:∀a∈ms,(txA a).length+3≤64*wA a:=by
  intro a ha
  have q1:=tl_P a.pat (hgm a ha).1
  have q2:=ih2 a ha (hgm a ha).2
  have q3:wA a=wP a.pat+wE a.body:=by cases a;exact wA_mk _ _
  have q4:=wP_pos a.pat
  unfold txA
  simp only[List.length_append,List.length_cons,List.length_nil]
  omega
 have hcx:=jn_len [44,32] (by decide) txE wE 64 xs (fun x hx=>ih1 x hx (hgx x hx))
 have hca:=jn_len [59,32] (by decide) txA wA 64 ms hA
 have hsx:(xs.map wE).sum=PV.wts (eEs xs):=by rw[eEs_map,wts_sum];rfl
 have hsa:(ms.map wA).sum=PV.wts (eAs ms):=by rw[eAs_map,wts_sum];rfl
 rw[hsx]at hcx
 rw[hsa]at hca
 have hsum:∀l:List Ex,(∀x∈l,(txE x).length+3≤64*wE x)→((l.map txE).map (·.length)).sum+3*l.length≤64*(l.map wE).sum:=by
  intro l
  induction l with
  |nil=>intro _;simp
  |cons y q ihq=>
   intro hq
   have:=ihq (fun z hz=>hq z (by simp[hz]))
   have:=hq y (by simp)
   simp only[List.map_cons,List.sum_cons,List.length_cons,Nat.mul_add]at *
   omega
 have hs:=hsum xs (fun x hx=>ih1 x hx (hgx x hx))
 rw[hsx]at hs
 have hns:=names_len ns ts
 have h1:=itoa_len hg.1
 have h2:=boo_len m
 have h3:=quo_len (bs t)
 have h4:=called_len k
 have h5:=bs_size t
 have ha:(armsB (txAs ms)).length≤64*PV.wts (eAs ms)+4:=by
  unfold armsB
  rw[txAs_map]
  cases (List.map txA ms).length==0 with
  |true=>simp
  |false=>simp only[cond_false,List.length_append,List.length_cons,List.length_nil];omega
 have hargs:(argsB (txEs xs)).length≤64*PV.wts (eEs xs)+2:=by
  unfold argsB com
  rw[txEs_map]
  simp only[List.length_append,List.length_cons,List.length_nil]
  omega
 have g0:=getD_len (xs.map txE) 0
 have g01:((xs.map txE).getD 0 []).length+((xs.map txE).getD 1 []).length+((xs.map txE).getD 2 []).length≤((xs.map txE).map (·.length)).sum:=by
  match xs with
  | []=>simp
  | [a]=>simp
  | [a,b]=>simp
  |a::b::c::r=>simp;omega
 rw[txE,txEs_map]
 rw[txEs_map]at hargs
 cases k==1 with
 |true=>
  simp only[cond_true,cond_false]
  simp;omega
 |false=>
 cases k==2 with
 |true=>
  simp only[cond_true,cond_false]
  omega
 |false=>
 cases k==3 with
 |true=>
  simp only[cond_true,cond_false]
  omega
 |false=>
 cases k==4 with
 |true=>
  simp only[cond_true,cond_false]
  omega
 |false=>
 cases k==5 with
 |true=>
  simp only[cond_true,cond_false]
  omega
 |false=>
 cases k==6 with
 |true=>
  simp only[cond_true,cond_false]
  simp only[List.length_append,List.length_cons,List.length_nil];omega
 |false=>
 cases k==7 with
 |true=>
  simp only[cond_true,cond_false]
  simp only[List.length_append,List.length_cons,List.length_nil];omega
 |false=>
 cases k==8 with
 |true=>
  simp only[cond_true,cond_false]
  cases xs.length==1<;>simp only[cond_true,cond_false,List.length_append,List.length_cons,List.length_nil]<;>omega
 |false=>
 cases k==9 with
 |true=>
  simp only[cond_true,cond_false]
  simp only[List.length_append,List.length_cons,List.length_nil];omega
 |false=>
 cases k==10 with
 |true=>
  simp only[cond_true,cond_false]
  simp only[List.length_append,List.length_cons,List.length_nil];omega
 |false=>
 cases k==12 with
 |true=>
  simp only[cond_true,cond_false]
  cases xs.length==0<;>simp only[cond_true,cond_false,List.length_append,List.length_cons,List.length_nil]<;>omega
 |false=>
 cases k==13 with
 |true=>
  simp only[cond_true,cond_false]
  simp only[List.length_append,List.length_cons,List.length_nil];omega
 |false=>
 cases k==14 with
 |true=>
  simp only[cond_true,cond_false]
  simp only[List.length_append,List.length_cons,List.length_nil];omega
 |false=>
 cases k==16 with
 |true=>
  simp only[cond_true,cond_false]
  simp;omega
 |false=>
 cases k==18 with
 |true=>
  simp only[cond_true,cond_false]
  cases decide (m≥0)<;>simp only[cond_true,cond_false,List.length_append,List.length_cons,List.length_nil]<;>omega
 |false=>
 simp only[cond_false,List.length_append,List.length_cons,List.length_nil]
 omega
theorem arms_spec (tab:List Value) (l:List Arm) (hl:l.length≤1048576) (hsz:(Lib.join (l.map txA) [59,32]).length≤1000000000) (hsa:∀a∈l,(txA a).length≤1000000000) (hp:∀a∈l,AMem Tryz.prog 135 [.p (eP a.pat)] (hW tab) (.p (.s (B (txP a.pat)))) (hW tab))
 (he:∀a∈l,AMem Tryz.prog 33 [.p (eE a.body)] (hW tab) (.p (.s (B (txE a.body)))) (hW tab)):AMem Tryz.prog 92 [.p (.sl 12 (eAs l))] (hW tab) (.p (.s (B (armsB (txAs l))))) (hW tab):=by
 rw[txAs_map]
 unfold armsB hW at *
 cases hl0:(l.map txA).length==0 with
 |true=>
  have:l=[]:=by simpa using hl0
  subst this
  rw[cond_true]
  refine AMem.intro (tyOf_ok Tryz.prog) hmix Tryz.func92 rfl (by rfl) (by kernel_rfl) (by show 1≤_;decide) rfl ?_
  conv=>whnf
  exact⟨.inl rfl,⟨rfl,rfl⟩,trivial⟩
 |false=>
 rw[cond_false,←catB,←catB]
 have hne:((eAs l).length:Int)≠0:=by
  rw[eAs_map,List.length_map]
  rw[List.length_map]at hl0
  intro e
  have:l.length=0:=by omega
  rw[this]at hl0;cases hl0
 have hlen:(eAs l).length=l.length:=by rw[eAs_map,List.length_map]
 have hget:∀(k:Nat) (a:Arm),l[k]?=some a→(eAs l)[k]?=some (eA a):=fun k a h=>by rw[eAs_map,List.getElem?_map,h];rfl
 have hj:=TK.join_spec (l.map txA) [59,32] (by rw[List.length_map];exact hl) (by omega)
 generalize hq:Lib.join (l.map txA) [59,32]=q at *
 refine AMem.intro (tyOf_ok Tryz.prog) hmix Tryz.func92 rfl (by rfl) (by kernel_rfl) (by show 1≤_;decide) rfl ?_
 conv=>whnf
 refine asf (by rw[beq_eq_false_iff_ne];exact hne) ?_
 conv=>whnf
 refine lp_nil 3 0 rfl ?_
 refine loopS (tyOf_ok _) hmix (by kernel_rfl) l.length [3,9,10,11] [1000000000] (fun k (s:List Bs)=>[.so 1 (s.map TK.eStr),.p (.sl 12 (eAs l)),.p (.i .i64 (eAs l).length),.p (.i .i64 (ix k))]) (fun _ _=>[.glob 0 tab]) (fun k s=>s=(l.take k).map txA) [] ⟨rfl,rfl,rfl,rfl⟩ (by simp) ?_
 intro k s hk hs
 have hsl:s.length≤1048576:=by rw[hs];simp;omega
 conv=>whnf
 refine asplit ?_ ?_<;>intro h1<;>conv=>whnf
 ·have hk1:=ix_tt h1 (by rw[hlen]) hk (by omega)
  obtain⟨b,hb1⟩:∃b,l[k]?=some b:=⟨_,List.getElem?_eq_getElem hk1⟩
  have hm:=List.mem_of_getElem? hb1
  refine aidxk (hget k b hb1) (by omega) ?_
  have hc1:=hp b hm
  have hc2:=he b hm
  have hsb:=hsa b hm
  have e2:B (txP b.pat)++⟨#[32,61,62,32]⟩++B (txE b.body)=B (txA b):=by
   unfold txA;rw[←catB,←catB];rfl
  have hsz2:(txA b).length=(txP b.pat).length+4+(txE b.body).length:=by
   unfold txA;simp only[List.length_append,List.length_cons,List.length_nil]
  have hts:(l.take (k+1)).map txA=s++[txA b]:=by rw[take_snoc hb1,List.map_append,hs];rfl
  generalize txA b=z at *
  obtain⟨bp,be⟩:=b
  simp only[Arm.pat,Arm.body]at *
  generalize txP bp=q1 at *
  generalize txE be=q2 at *
  obtain⟨b1,b2,b3,b4⟩:=bp
  obtain⟨c1,c2,c3,c4,c5,c6,c7,c8⟩:=be
  have h5:List.map TK.eStr (s++[z])=s.map TK.eStr++[PV.s (B q1++⟨#[32,61,62,32]⟩++B q2)]:=by rw[List.map_append,e2];rfl
  conv=>whnf
  refine amc [1000000000] 50 hc1 ?_
  conv=>whnf
  refine aneed (by simp only[ByteArray.size_append,Bsz,sz_lit,List.length_cons,List.length_nil];omega) ?_
  conv=>whnf
  refine amc [1000000000] 60 hc2 ?_
  conv=>whnf
  refine aneed (by simp only[ByteArray.size_append,Bsz,sz_lit,List.length_cons,List.length_nil];omega) ?_
  conv=>whnf
  refine aneed (show((s.map TK.eStr).length+1)*16≤140737488355328 by rw[List.length_map];omega) ?_
  conv=>whnf
  refine aneed (by kernel_rfl) ?_
  conv=>whnf
  refine⟨hk1,_,⟨rfl,?_,rfl,rfl⟩,hts.symm⟩
  rw[h5];rfl
 ·have hk1:=ix_ff h1 (by rw[hlen]) hk (by omega)
  have hs2:s=l.map txA:=by rw[hs,hk1,List.take_length]
  subst hs2
  refine apc hj ?_
  conv=>whnf
  refine aneed (by simp only[ByteArray.size_append,Bsz,sz_lit,List.length_cons,List.length_nil];omega) ?_
  conv=>whnf
  refine aneed (by simp only[ByteArray.size_append,Bsz,sz_lit,List.length_cons,List.length_nil];omega) ?_
  conv=>whnf
  exact⟨.inl rfl,⟨rfl,rfl⟩,trivial⟩
end SW
open Go Go.AM Go.Proofs Go.RowKit TR
set_option maxRecDepth 100000
namespace SW
open SH
theorem expr_spec {tab:List Value} (hI:ItoC tab) (e:Ex):Rt e→rgE e→wE e≤1048576→AMem Tryz.prog 33 [.p (eE e)] (hW tab) (.p (.s (B (txE e)))) (hW tab):=by
 induction e using Ex.ind with
 |h k m t ns ts xs ms p ih1 ih2=>
 intro h hg hw
 have hs:=shape _ h
 clear h
 rw[rgE]at hg
 have hgx:=rgEs_of hg.2.1
 have hgm:=rgAs_of hg.2.2
 have hwk:=wE_mk k m t ns ts xs ms p
 have hnl:=names_len ns ts
 have hi:=itoa_len hg.1
 have hIm:=hI m hg.1
 have hxl:=wEs_len xs
 have hml:=wAs_len ms
 have hcl:(com (xs.map txE)).length≤64*PV.wts (eEs xs):=by
  have:=jn_len [44,32] (by decide) txE wE 64 xs (fun x hx=>tl_E x (hgx x hx))
  rw[show(xs.map wE).sum=PV.wts (eEs xs) by rw[eEs_map,wts_sum];rfl]at this
  exact this
 have hts:=bs_size t
 have args:(∀x∈xs,Rt x)→AMem Tryz.prog 89 [.p (.sl 8 (eEs xs)),.fn 33 [] []] (hW tab) (.p (.s (B (com (xs.map txE))))) (hW tab):=fun hx=>
  joinedEx_spec tab xs (by omega) (by omega) (fun x hx'=>ih1 x hx' (hx x hx') (hgx x hx') (by have:=wEs_mem hx';omega))
 have sub:∀x∈xs,Rt x→AMem Tryz.prog 33 [.p (eE x)] (hW tab) (.p (.s (B (txE x)))) (hW tab)∧(txE x).length≤1000000000:=fun x hx' hr=>
  ⟨ih1 x hx' hr (hgx x hx') (by have:=wEs_mem hx';omega),by have:=tl_E x (hgx x hx');have:=wEs_mem hx';omega⟩
 have hA:(∀a∈ms,RA a)→AMem Tryz.prog 92 [.p (.sl 12 (eAs ms))] (hW tab) (.p (.s (B (armsB (txAs ms))))) (hW tab)∧(armsB (txAs ms)).length≤1000000000:=by
  intro hr
  have q3:∀a:Arm,wA a=wP a.pat+wE a.body:=fun a=>by cases a;exact wA_mk _ _
  have hAl:∀a∈ms,(txA a).length+3≤64*wA a:=by
   intro a ha
   have q1:=tl_P a.pat (hgm a ha).1
   have q2:=tl_E a.body (hgm a ha).2
   have q4:=wP_pos a.pat
   have q5:=q3 a
   unfold txA
   simp only[List.length_append,List.length_cons,List.length_nil]
   omega
  have hca:=jn_len [59,32] (by decide) txA wA 64 ms hAl
  rw[show(ms.map wA).sum=PV.wts (eAs ms) by rw[eAs_map,wts_sum];rfl]at hca
  refine⟨arms_spec tab ms (by omega) (by omega) (fun a ha=>by have:=hAl a ha;have:=wAs_mem ha;omega) (fun a ha=>pat_spec hI a.pat (hr a ha).1 (hgm a ha).1 (by have:=wAs_mem ha;have:=q3 a;omega)) (fun a ha=>ih2 a ha (hr a ha).2 (hgm a ha).2 (by have:=wAs_mem ha;have:=q3 a;omega)),?_⟩
  unfold armsB
  rw[txAs_map]
  cases (List.map txA ms).length==0 with
  |true=>simp
  |false=>simp only[cond_false,List.length_append,List.length_cons,List.length_nil];omega
 clear ih1 ih2
 cases hs with
 |unit=>
  rw[show txE (.mk 1 0 emp [] [] [] [] p)=[40,41] by rw[txE];rfl]
  have hj:=args (by simp)
  unfold hW at hj hIm ⊢
  generalize com (List.map txE [])=q at hj hcl
  refine AMem.intro (tyOf_ok Tryz.prog) hmix Tryz.func33 rfl (by rfl) (by kernel_rfl) (by show 1≤_;decide) rfl ?_
  conv=>whnf
  refine amc [1000000000] 300 hj ?_
  conv=>whnf
  refine aneed (by simp only[ByteArray.size_append,Bsz,sz_lit,List.length_cons,List.length_nil];omega) ?_
  conv=>whnf
  refine aneed (by simp only[ByteArray.size_append,Bsz,sz_lit,List.length_cons,List.length_nil];omega) ?_
  conv=>whnf
  exact⟨.inl rfl,⟨rfl,rfl⟩,trivial⟩
 |int=>
  rw[show txE (.mk 2 m emp [] [] [] [] p)=Lib.itoa m by rw[txE];rfl]
  have hj:=args (by simp)
  unfold hW at hj hIm ⊢
  generalize com (List.map txE [])=q at hj hcl
  generalize Lib.itoa m=z at *
  refine AMem.intro (tyOf_ok Tryz.prog) hmix Tryz.func33 rfl (by rfl) (by kernel_rfl) (by show 1≤_;decide) rfl ?_
  conv=>whnf
  refine amc [1000000000] 300 hj ?_
  conv=>whnf
  refine aneed (by simp only[ByteArray.size_append,Bsz,sz_lit,List.length_cons,List.length_nil];omega) ?_
  conv=>whnf
  refine aneed (by simp only[ByteArray.size_append,Bsz,sz_lit,List.length_cons,List.length_nil];omega) ?_
  conv=>whnf
  refine amc [1000000000] 400 hIm ?_
  conv=>whnf
  exact⟨.inl rfl,⟨rfl,rfl⟩,trivial⟩
 |bool=>
  rw[show txE (.mk 3 m emp [] [] [] [] p)=booB m by rw[txE];rfl]
  have hj:=args (by simp)
  unfold hW at hj hIm ⊢
  generalize com (List.map txE [])=q at hj hcl
  have hc:=bool_spec m
  generalize booB m=z at *
  refine AMem.intro (tyOf_ok Tryz.prog) hmix Tryz.func33 rfl (by rfl) (by kernel_rfl) (by show 1≤_;decide) rfl ?_
  conv=>whnf
  refine amc [1000000000] 300 hj ?_
  conv=>whnf
  refine aneed (by simp only[ByteArray.size_append,Bsz,sz_lit,List.length_cons,List.length_nil];omega) ?_
  conv=>whnf
  refine aneed (by simp only[ByteArray.size_append,Bsz,sz_lit,List.length_cons,List.length_nil];omega) ?_
  conv=>whnf
  refine apc hc ?_
  conv=>whnf
  exact⟨.inl rfl,⟨rfl,rfl⟩,trivial⟩
 |text=>
  rw[show txE (.mk 4 0 t [] [] [] [] p)=quoB (bs t) by rw[txE];rfl]
  have hj:=args (by simp)
  unfold hW at hj hIm ⊢
  generalize com (List.map txE [])=q at hj hcl
  have hc:=quo_spec (bs t)
  rw[Bbs]at hc
  generalize quoB (bs t)=z at *
  refine AMem.intro (tyOf_ok Tryz.prog) hmix Tryz.func33 rfl (by rfl) (by kernel_rfl) (by show 1≤_;decide) rfl ?_
  conv=>whnf
  refine amc [1000000000] 300 hj ?_
  conv=>whnf
  refine aneed (by simp only[ByteArray.size_append,Bsz,sz_lit,List.length_cons,List.length_nil];omega) ?_
  conv=>whnf
  refine aneed (by simp only[ByteArray.size_append,Bsz,sz_lit,List.length_cons,List.length_nil];omega) ?_
  conv=>whnf
  refine apc hc ?_
  conv=>whnf
  exact⟨.inl rfl,⟨rfl,rfl⟩,trivial⟩
 |var=>
  rw[show txE (.mk 5 0 t [] [] [] [] p)=bs t by rw[txE];rfl,Bbs]
  have hj:=args (by simp)
  unfold hW at hj hIm ⊢
  generalize com (List.map txE [])=q at hj hcl
  refine AMem.intro (tyOf_ok Tryz.prog) hmix Tryz.func33 rfl (by rfl) (by kernel_rfl) (by show 1≤_;decide) rfl ?_
  conv=>whnf
  refine amc [1000000000] 300 hj ?_
  conv=>whnf
  refine aneed (by simp only[ByteArray.size_append,Bsz,sz_lit,List.length_cons,List.length_nil];omega) ?_
  conv=>whnf
  refine aneed (by simp only[ByteArray.size_append,Bsz,sz_lit,List.length_cons,List.length_nil];omega) ?_
  conv=>whnf
  exact⟨.inl rfl,⟨rfl,rfl⟩,trivial⟩
 |lett _ x y _ h hx hy=>
  rw[show txE (.mk 6 0 t [] [] [x,y] [] p)=[108,101,116,32]++bs t++[32,61,32]++txE x++[32,105,110,32]++txE y by rw[txE];rfl]
  simp only[←catB,Bbs]
  have hj:=args (by intro z hz;simp only[List.mem_cons,List.not_mem_nil,or_false]at hz;rcases hz with rfl|rfl;exact hx;exact hy)
  unfold hW at hj hIm ⊢
  generalize com (List.map txE [x,y])=q at hj hcl
  obtain⟨hc1,hl1⟩:=sub x (by simp) hx
  obtain⟨hc2,hl2⟩:=sub y (by simp) hy
  unfold hW at hc1 hc2
  generalize txE x=z1 at *
  generalize txE y=z2 at *
  obtain⟨x1,x2,x3,x4,x5,x6,x7,x8⟩:=x
  obtain⟨y1,y2,y3,y4,y5,y6,y7,y8⟩:=y
  refine AMem.intro (tyOf_ok Tryz.prog) hmix Tryz.func33 rfl (by rfl) (by kernel_rfl) (by show 1≤_;decide) rfl ?_
  conv=>whnf
  refine amc [1000000000] 300 hj ?_
  conv=>whnf
  refine aneed (by simp only[ByteArray.size_append,Bsz,sz_lit,List.length_cons,List.length_nil];omega) ?_
  conv=>whnf
  refine aneed (by simp only[ByteArray.size_append,Bsz,sz_lit,List.length_cons,List.length_nil];omega) ?_
  conv=>whnf
  refine aneed (by simp only[ByteArray.size_append,Bsz,sz_lit,List.length_cons,List.length_nil];omega) ?_
  conv=>whnf
  refine aneed (by simp only[ByteArray.size_append,Bsz,sz_lit,List.length_cons,List.length_nil];omega) ?_
  conv=>whnf
  refine aidxi (by decide) rfl ?_
  conv=>whnf
  refine amc [1000000000] 400 hc1 ?_
  conv=>whnf
  refine aneed (by simp only[ByteArray.size_append,Bsz,sz_lit,List.length_cons,List.length_nil];omega) ?_
  conv=>whnf
  refine aneed (by simp only[ByteArray.size_append,Bsz,sz_lit,List.length_cons,List.length_nil];omega) ?_
  conv=>whnf
  refine aidxi (by decide) rfl ?_
  conv=>whnf
  refine amc [1000000000] 500 hc2 ?_
  conv=>whnf
  refine aneed (by simp only[ByteArray.size_append,Bsz,sz_lit,List.length_cons,List.length_nil];omega) ?_
  conv=>whnf
  refine aneed (by kernel_rfl) ?_
  conv=>whnf
  exact⟨.inl rfl,⟨rfl,rfl⟩,trivial⟩
 |iff x y z _ hx hy hz=>
  rw[show txE (.mk 7 0 emp [] [] [x,y,z] [] p)=[105,102,32]++txE x++[32,116,104,101,110,32]++txE y++[32,101,108,115,101,32]++txE z by rw[txE];rfl]
  simp only[←catB,Bbs]
  have hj:=args (by intro u hu;simp only[List.mem_cons,List.not_mem_nil,or_false]at hu;rcases hu with rfl|rfl|rfl;exact hx;exact hy;exact hz)
  unfold hW at hj hIm ⊢
  generalize com (List.map txE [x,y,z])=q at hj hcl
  obtain⟨hc1,hl1⟩:=sub x (by simp) hx
  unfold hW at hc1
  generalize txE x=z1 at *
  obtain⟨x1,x2,x3,x4,x5,x6,x7,x8⟩:=x
  obtain⟨hc2,hl2⟩:=sub y (by simp) hy
  unfold hW at hc2
  generalize txE y=z2 at *
  obtain⟨y1,y2,y3,y4,y5,y6,y7,y8⟩:=y
  obtain⟨hc3,hl3⟩:=sub z (by simp) hz
  unfold hW at hc3
  generalize txE z=w3 at *
  obtain⟨z1,z2,z3,z4,z5,z6,z7,z8⟩:=z
  refine AMem.intro (tyOf_ok Tryz.prog) hmix Tryz.func33 rfl (by rfl) (by kernel_rfl) (by show 1≤_;decide) rfl ?_
  conv=>whnf
  refine amc [1000000000] 300 hj ?_
  conv=>whnf
  refine aneed (by simp only[ByteArray.size_append,Bsz,sz_lit,List.length_cons,List.length_nil];omega) ?_
  conv=>whnf
  refine aneed (by simp only[ByteArray.size_append,Bsz,sz_lit,List.length_cons,List.length_nil];omega) ?_
  conv=>whnf
  refine aidxi (by decide) rfl ?_
  conv=>whnf
  refine amc [1000000000] 400 hc1 ?_
  conv=>whnf
  refine aneed (by simp only[ByteArray.size_append,Bsz,sz_lit,List.length_cons,List.length_nil];omega) ?_
  conv=>whnf
  refine aneed (by simp only[ByteArray.size_append,Bsz,sz_lit,List.length_cons,List.length_nil];omega) ?_
  conv=>whnf
  refine aidxi (by decide) rfl ?_
  conv=>whnf
  refine amc [1000000000] 500 hc2 ?_
  conv=>whnf
  refine aneed (by simp only[ByteArray.size_append,Bsz,sz_lit,List.length_cons,List.length_nil];omega) ?_
  conv=>whnf
  refine aneed (by simp only[ByteArray.size_append,Bsz,sz_lit,List.length_cons,List.length_nil];omega) ?_
  conv=>whnf
  refine aidxi (by decide) rfl ?_
  conv=>whnf
  refine amc [1000000000] 600 hc3 ?_
  conv=>whnf
  refine aneed (by simp only[ByteArray.size_append,Bsz,sz_lit,List.length_cons,List.length_nil];omega) ?_
  conv=>whnf
  refine aneed (by kernel_rfl) ?_
  conv=>whnf
  exact⟨.inl rfl,⟨rfl,rfl⟩,trivial⟩
 |nott x _ hx=>
  rw[show txE (.mk 8 0 (B [110,111,116]) [] [] [x] [] p)=[40,110,111,116,32]++txE x++[41] by rw[txE];rfl]
  simp only[←catB,Bbs]
  have hj:=args (by intro z hz;simp only[List.mem_cons,List.not_mem_nil,or_false]at hz;subst hz;exact hx)
  unfold hW at hj hIm ⊢
  generalize com (List.map txE [x])=q at hj hcl
  obtain⟨hc1,hl1⟩:=sub x (by simp) hx
  unfold hW at hc1
  generalize txE x=z1 at *
  obtain⟨x1,x2,x3,x4,x5,x6,x7,x8⟩:=x
  refine AMem.intro (tyOf_ok Tryz.prog) hmix Tryz.func33 rfl (by rfl) (by kernel_rfl) (by show 1≤_;decide) rfl ?_
  conv=>whnf
  refine amc [1000000000] 300 hj ?_
  conv=>whnf
  refine aneed (by simp only[ByteArray.size_append,Bsz,sz_lit,List.length_cons,List.length_nil];omega) ?_
  conv=>whnf
  refine aneed (by simp only[ByteArray.size_append,Bsz,sz_lit,List.length_cons,List.length_nil];omega) ?_
  conv=>whnf
  refine aidxi (by decide) rfl ?_
  conv=>whnf
  refine amc [1000000000] 400 hc1 ?_
  conv=>whnf
  refine aneed (by simp only[ByteArray.size_append,Bsz,sz_lit,List.length_cons,List.length_nil];omega) ?_
  conv=>whnf
  refine aneed (by simp only[ByteArray.size_append,Bsz,sz_lit,List.length_cons,List.length_nil];omega) ?_
  conv=>whnf
  exact⟨.inl rfl,⟨rfl,rfl⟩,trivial⟩
 |op _ x y _ h hx hy=>
  rw[show txE (.mk 8 0 t [] [] [x,y] [] p)=[40]++txE x++[32]++bs t++[32]++txE y++[41] by rw[txE];rfl]
  simp only[←catB,Bbs]
  have hj:=args (by intro z hz;simp only[List.mem_cons,List.not_mem_nil,or_false]at hz;rcases hz with rfl|rfl;exact hx;exact hy)
  unfold hW at hj hIm ⊢
  generalize com (List.map txE [x,y])=q at hj hcl
  obtain⟨hc1,hl1⟩:=sub x (by simp) hx
  unfold hW at hc1
  generalize txE x=z1 at *
  obtain⟨x1,x2,x3,x4,x5,x6,x7,x8⟩:=x
  obtain⟨hc2,hl2⟩:=sub y (by simp) hy
  unfold hW at hc2
  generalize txE y=z2 at *
  obtain⟨y1,y2,y3,y4,y5,y6,y7,y8⟩:=y
  refine AMem.intro (tyOf_ok Tryz.prog) hmix Tryz.func33 rfl (by rfl) (by kernel_rfl) (by show 1≤_;decide) rfl ?_
  conv=>whnf
  refine amc [1000000000] 300 hj ?_
  conv=>whnf
  refine aneed (by simp only[ByteArray.size_append,Bsz,sz_lit,List.length_cons,List.length_nil];omega) ?_
  conv=>whnf
  refine aneed (by simp only[ByteArray.size_append,Bsz,sz_lit,List.length_cons,List.length_nil];omega) ?_
  conv=>whnf
  refine aidxi (by decide) rfl ?_
  conv=>whnf
  refine amc [1000000000] 400 hc1 ?_
  conv=>whnf
  refine aneed (by simp only[ByteArray.size_append,Bsz,sz_lit,List.length_cons,List.length_nil];omega) ?_
  conv=>whnf
  refine aneed (by simp only[ByteArray.size_append,Bsz,sz_lit,List.length_cons,List.length_nil];omega) ?_
  conv=>whnf
  refine aneed (by simp only[ByteArray.size_append,Bsz,sz_lit,List.length_cons,List.length_nil];omega) ?_
  conv=>whnf
  refine aneed (by simp only[ByteArray.size_append,Bsz,sz_lit,List.length_cons,List.length_nil];omega) ?_
  conv=>whnf
  refine aidxi (by decide) rfl ?_
  conv=>whnf
  refine amc [1000000000] 500 hc2 ?_
  conv=>whnf
  refine aneed (by simp only[ByteArray.size_append,Bsz,sz_lit,List.length_cons,List.length_nil];omega) ?_
  conv=>whnf
  refine aneed (by simp only[ByteArray.size_append,Bsz,sz_lit,List.length_cons,List.length_nil];omega) ?_
  conv=>whnf
  refine aneed (by kernel_rfl) ?_
  conv=>whnf
  exact⟨.inl rfl,⟨rfl,rfl⟩,trivial⟩
 |call _ _ _ h hl hx=>
  rw[show txE (.mk 9 0 t [] [] xs [] p)=bs t++([40]++com (xs.map txE)++[41]) by rw[txE,txEs_map];rfl]
  simp only[←catB,Bbs]
  have hj:=args hx
  unfold hW at hj hIm ⊢
  generalize com (List.map txE xs)=q at hj hcl
  refine AMem.intro (tyOf_ok Tryz.prog) hmix Tryz.func33 rfl (by rfl) (by kernel_rfl) (by show 1≤_;decide) rfl ?_
  conv=>whnf
  refine amc [1000000000] 300 hj ?_
  conv=>whnf
  refine aneed (by simp only[ByteArray.size_append,Bsz,sz_lit,List.length_cons,List.length_nil];omega) ?_
  conv=>whnf
  refine aneed (by simp only[ByteArray.size_append,Bsz,sz_lit,List.length_cons,List.length_nil];omega) ?_
  conv=>whnf
  refine aneed (by simp only[ByteArray.size_append,Bsz,sz_lit,List.length_cons,List.length_nil];omega) ?_
  conv=>whnf
  exact⟨.inl rfl,⟨rfl,rfl⟩,trivial⟩
 |func _ _ x _ h hn ht hx=>
  have hf:=names_spec ns ts h (each_zero ht) (by omega)
  rw[show txE (.mk 10 0 emp ns ts [x] [] p)=[40,102,117,110,32]++namesB ns ts++[32,61,62,32]++txE x++[41] by rw[txE];rfl]
  simp only[←catB,Bbs]
  have hj:=args (by intro z hz;simp only[List.mem_cons,List.not_mem_nil,or_false]at hz;subst hz;exact hx)
  unfold hW at hj hIm ⊢
  generalize com (List.map txE [x])=q at hj hcl
  obtain⟨hc1,hl1⟩:=sub x (by simp) hx
  unfold hW at hc1
  generalize txE x=z1 at *
  obtain⟨x1,x2,x3,x4,x5,x6,x7,x8⟩:=x
  generalize namesB ns ts=nb at *
  refine AMem.intro (tyOf_ok Tryz.prog) hmix Tryz.func33 rfl (by rfl) (by kernel_rfl) (by show 1≤_;decide) rfl ?_
  conv=>whnf
  refine amc [1000000000] 300 hj ?_
  conv=>whnf
  refine aneed (by simp only[ByteArray.size_append,Bsz,sz_lit,List.length_cons,List.length_nil];omega) ?_
  conv=>whnf
  refine aneed (by simp only[ByteArray.size_append,Bsz,sz_lit,List.length_cons,List.length_nil];omega) ?_
  conv=>whnf
  refine apc hf ?_
  conv=>whnf
  refine aneed (by simp only[ByteArray.size_append,Bsz,sz_lit,List.length_cons,List.length_nil];omega) ?_
  conv=>whnf
  refine aneed (by simp only[ByteArray.size_append,Bsz,sz_lit,List.length_cons,List.length_nil];omega) ?_
  conv=>whnf
  refine aidxi (by decide) rfl ?_
  conv=>whnf
  refine amc [1000000000] 400 hc1 ?_
  conv=>whnf
  refine aneed (by simp only[ByteArray.size_append,Bsz,sz_lit,List.length_cons,List.length_nil];omega) ?_
  conv=>whnf
  refine aneed (by simp only[ByteArray.size_append,Bsz,sz_lit,List.length_cons,List.length_nil];omega) ?_
  conv=>whnf
  refine aneed (by kernel_rfl) ?_
  conv=>whnf
  exact⟨.inl rfl,⟨rfl,rfl⟩,trivial⟩
 |apply x xs _ hl h0 hx=>
  have hc:=called_spec 11 (by decide)
  have hcn:=called_len 11
  rw[show txE (.mk 11 0 emp [] [] (x::xs) [] p)=[97,112,112,108,121]++([40]++com ((x::xs).map txE)++[41]) by rw[txE,txEs_map];rfl]
  simp only[←catB,Bbs]
  have hj:=args (by intro u hu;rcases List.mem_cons.1 hu with rfl|q;exact h0;exact hx u q)
  unfold hW at hj hIm ⊢
  generalize com (List.map txE (x::xs))=q at hj hcl
  refine AMem.intro (tyOf_ok Tryz.prog) hmix Tryz.func33 rfl (by rfl) (by kernel_rfl) (by show 1≤_;decide) rfl ?_
  conv=>whnf
  refine amc [1000000000] 300 hj ?_
  conv=>whnf
  refine aneed (by simp only[ByteArray.size_append,Bsz,sz_lit,List.length_cons,List.length_nil];omega) ?_
  conv=>whnf
  refine aneed (by simp only[ByteArray.size_append,Bsz,sz_lit,List.length_cons,List.length_nil];omega) ?_
  conv=>whnf
  refine apc hc ?_
  conv=>whnf
  refine aneed (by simp only[ByteArray.size_append,Bsz,sz_lit,List.length_cons,List.length_nil];omega) ?_
  conv=>whnf
  exact⟨.inl rfl,⟨rfl,rfl⟩,trivial⟩
 |make _ _ _ h hl hx=>
  cases xs with
  |nil=>
   rw[show txE (.mk 12 0 t [] [] [] [] p)=bs t by rw[txE];rfl,Bbs]
   have hj:=args (by simp)
   unfold hW at hj hIm ⊢
   generalize com (List.map txE [])=q at hj hcl
   refine AMem.intro (tyOf_ok Tryz.prog) hmix Tryz.func33 rfl (by rfl) (by kernel_rfl) (by show 1≤_;decide) rfl ?_
   conv=>whnf
   refine amc [1000000000] 300 hj ?_
   conv=>whnf
   refine aneed (by simp only[ByteArray.size_append,Bsz,sz_lit,List.length_cons,List.length_nil];omega) ?_
   conv=>whnf
   refine aneed (by simp only[ByteArray.size_append,Bsz,sz_lit,List.length_cons,List.length_nil];omega) ?_
   conv=>whnf
   exact⟨.inl rfl,⟨rfl,rfl⟩,trivial⟩
  |cons x r=>
   rw[show txE (.mk 12 0 t [] [] (x::r) [] p)=bs t++([40]++com ((x::r).map txE)++[41]) by rw[txE,txEs_map];rfl]
   simp only[←catB,Bbs]
   have hj:=args hx
   unfold hW at hj hIm ⊢
   generalize com (List.map txE (x::r))=q at hj hcl
   refine AMem.intro (tyOf_ok Tryz.prog) hmix Tryz.func33 rfl (by rfl) (by kernel_rfl) (by show 1≤_;decide) rfl ?_
   conv=>whnf
   refine amc [1000000000] 300 hj ?_
   conv=>whnf
   refine aneed (by simp only[ByteArray.size_append,Bsz,sz_lit,List.length_cons,List.length_nil];omega) ?_
   conv=>whnf
   refine aneed (by simp only[ByteArray.size_append,Bsz,sz_lit,List.length_cons,List.length_nil];omega) ?_
   conv=>whnf
   refine aneed (by simp only[ByteArray.size_append,Bsz,sz_lit,List.length_cons,List.length_nil];omega) ?_
   conv=>whnf
   exact⟨.inl rfl,⟨rfl,rfl⟩,trivial⟩
 |mat x a ms _ hl hx ha hm=>
  obtain⟨hc9,hl9⟩:=hA (by intro u hu;rcases List.mem_cons.1 hu with rfl|q;exact ha;exact hm u q)
  rw[show txE (.mk 13 0 emp [] [] [x] (a::ms) p)=[109,97,116,99,104,32]++txE x++[32]++armsB (txAs (a::ms)) by rw[txE];rfl]
  simp only[←catB,Bbs]
  unfold hW at hc9
  have hj:=args (by intro z hz;simp only[List.mem_cons,List.not_mem_nil,or_false]at hz;subst hz;exact hx)
  unfold hW at hj hIm ⊢
  generalize com (List.map txE [x])=q at hj hcl
  obtain⟨hc1,hl1⟩:=sub x (by simp) hx
  unfold hW at hc1
  generalize txE x=z1 at *
  obtain⟨x1,x2,x3,x4,x5,x6,x7,x8⟩:=x
  generalize armsB (txAs (a::ms))=za at *
  refine AMem.intro (tyOf_ok Tryz.prog) hmix Tryz.func33 rfl (by rfl) (by kernel_rfl) (by show 1≤_;decide) rfl ?_
  conv=>whnf
  refine amc [1000000000] 300 hj ?_
  conv=>whnf
  refine aneed (by simp only[ByteArray.size_append,Bsz,sz_lit,List.length_cons,List.length_nil];omega) ?_
  conv=>whnf
  refine aneed (by simp only[ByteArray.size_append,Bsz,sz_lit,List.length_cons,List.length_nil];omega) ?_
  conv=>whnf
  refine aidxi (by decide) rfl ?_
  conv=>whnf
  refine amc [1000000000] 400 hc1 ?_
  conv=>whnf
  refine aneed (by simp only[ByteArray.size_append,Bsz,sz_lit,List.length_cons,List.length_nil];omega) ?_
  conv=>whnf
  refine aneed (by simp only[ByteArray.size_append,Bsz,sz_lit,List.length_cons,List.length_nil];omega) ?_
  conv=>whnf
  refine amc [1000000000] 500 hc9 ?_
  conv=>whnf
  refine aneed (by simp only[ByteArray.size_append,Bsz,sz_lit,List.length_cons,List.length_nil];omega) ?_
  conv=>whnf
  refine aneed (by kernel_rfl) ?_
  conv=>whnf
  exact⟨.inl rfl,⟨rfl,rfl⟩,trivial⟩
 |spawn _ _ _ h hl hx=>
  rw[show txE (.mk 14 0 t [] [] xs [] p)=[115,112,97,119,110,32]++bs t++([40]++com (xs.map txE)++[41]) by rw[txE,txEs_map];rfl]
  simp only[←catB,Bbs]
  have hj:=args hx
  unfold hW at hj hIm ⊢
  generalize com (List.map txE xs)=q at hj hcl
  refine AMem.intro (tyOf_ok Tryz.prog) hmix Tryz.func33 rfl (by rfl) (by kernel_rfl) (by show 1≤_;decide) rfl ?_
  conv=>whnf
  refine amc [1000000000] 300 hj ?_
  conv=>whnf
  refine aneed (by simp only[ByteArray.size_append,Bsz,sz_lit,List.length_cons,List.length_nil];omega) ?_
  conv=>whnf
  refine aneed (by simp only[ByteArray.size_append,Bsz,sz_lit,List.length_cons,List.length_nil];omega) ?_
  conv=>whnf
  refine aneed (by simp only[ByteArray.size_append,Bsz,sz_lit,List.length_cons,List.length_nil];omega) ?_
  conv=>whnf
  refine aneed (by simp only[ByteArray.size_append,Bsz,sz_lit,List.length_cons,List.length_nil];omega) ?_
  conv=>whnf
  exact⟨.inl rfl,⟨rfl,rfl⟩,trivial⟩
 |self=>
  rw[show txE (.mk 16 0 emp [] [] [] [] p)=[115,101,108,102] by rw[txE];rfl]
  have hj:=args (by simp)
  unfold hW at hj hIm ⊢
  generalize com (List.map txE [])=q at hj hcl
  refine AMem.intro (tyOf_ok Tryz.prog) hmix Tryz.func33 rfl (by rfl) (by kernel_rfl) (by show 1≤_;decide) rfl ?_
  conv=>whnf
  refine amc [1000000000] 300 hj ?_
  conv=>whnf
  refine aneed (by simp only[ByteArray.size_append,Bsz,sz_lit,List.length_cons,List.length_nil];omega) ?_
  conv=>whnf
  refine aneed (by simp only[ByteArray.size_append,Bsz,sz_lit,List.length_cons,List.length_nil];omega) ?_
  conv=>whnf
  exact⟨.inl rfl,⟨rfl,rfl⟩,trivial⟩
 |become _ _ hl hx=>
  have hc:=called_spec 17 (by decide)
  have hcn:=called_len 17
  rw[show txE (.mk 17 0 emp [] [] xs [] p)=[98,101,99,111,109,101]++([40]++com (xs.map txE)++[41]) by rw[txE,txEs_map];rfl]
  simp only[←catB,Bbs]
  have hj:=args hx
  unfold hW at hj hIm ⊢
  generalize com (List.map txE xs)=q at hj hcl
  refine AMem.intro (tyOf_ok Tryz.prog) hmix Tryz.func33 rfl (by rfl) (by kernel_rfl) (by show 1≤_;decide) rfl ?_
  conv=>whnf
  refine amc [1000000000] 300 hj ?_
  conv=>whnf
  refine aneed (by simp only[ByteArray.size_append,Bsz,sz_lit,List.length_cons,List.length_nil];omega) ?_
  conv=>whnf
  refine aneed (by simp only[ByteArray.size_append,Bsz,sz_lit,List.length_cons,List.length_nil];omega) ?_
  conv=>whnf
  refine apc hc ?_
  conv=>whnf
  refine aneed (by simp only[ByteArray.size_append,Bsz,sz_lit,List.length_cons,List.length_nil];omega) ?_
  conv=>whnf
  exact⟨.inl rfl,⟨rfl,rfl⟩,trivial⟩
 |recv _ _ hl hm=>
  obtain⟨hc9,hl9⟩:=hA hm
  rw[show txE (.mk 18 (-1) emp [] [] [] ms p)=[114,101,99,101,105,118,101,32]++armsB (txAs ms) by rw[txE];rfl]
  simp only[←catB,Bbs]
  unfold hW at hc9
  have hj:=args (by simp)
  unfold hW at hj hIm ⊢
  generalize com (List.map txE [])=q at hj hcl
  generalize armsB (txAs ms)=za at *
  refine AMem.intro (tyOf_ok Tryz.prog) hmix Tryz.func33 rfl (by rfl) (by kernel_rfl) (by show 1≤_;decide) rfl ?_
  conv=>whnf
  refine amc [1000000000] 300 hj ?_
  conv=>whnf
  refine aneed (by simp only[ByteArray.size_append,Bsz,sz_lit,List.length_cons,List.length_nil];omega) ?_
  conv=>whnf
  refine aneed (by simp only[ByteArray.size_append,Bsz,sz_lit,List.length_cons,List.length_nil];omega) ?_
  conv=>whnf
  refine amc [1000000000] 500 hc9 ?_
  conv=>whnf
  refine aneed (by simp only[ByteArray.size_append,Bsz,sz_lit,List.length_cons,List.length_nil];omega) ?_
  conv=>whnf
  exact⟨.inl rfl,⟨rfl,rfl⟩,trivial⟩
 |after _ x _ _ h0 h1 hl hx hm=>
  obtain⟨hc9,hl9⟩:=hA hm
  have hd:decide (m≥0)=true:=decide_eq_true h0
  rw[show txE (.mk 18 m emp [] [] [x] ms p)=[114,101,99,101,105,118,101,32]++armsB (txAs ms)++([32,97,102,116,101,114,32]++Lib.itoa m++[32,61,62,32]++txE x) by rw[txE,hd];rfl]
  simp only[←catB,Bbs]
  unfold hW at hc9
  have hj:=args (by intro z hz;simp only[List.mem_cons,List.not_mem_nil,or_false]at hz;subst hz;exact hx)
  unfold hW at hj hIm ⊢
  generalize com (List.map txE [x])=q at hj hcl
  obtain⟨hc1,hl1⟩:=sub x (by simp) hx
  unfold hW at hc1
  generalize txE x=z1 at *
  obtain⟨x1,x2,x3,x4,x5,x6,x7,x8⟩:=x
  generalize armsB (txAs ms)=za at *
  generalize Lib.itoa m=zi at *
  refine AMem.intro (tyOf_ok Tryz.prog) hmix Tryz.func33 rfl (by rfl) (by kernel_rfl) (by show 1≤_;decide) rfl ?_
  conv=>whnf
  refine amc [1000000000] 300 hj ?_
  conv=>whnf
  refine aneed (by simp only[ByteArray.size_append,Bsz,sz_lit,List.length_cons,List.length_nil];omega) ?_
  conv=>whnf
  refine aneed (by simp only[ByteArray.size_append,Bsz,sz_lit,List.length_cons,List.length_nil];omega) ?_
  conv=>whnf
  refine amc [1000000000] 500 hc9 ?_
  conv=>whnf
  refine aneed (by simp only[ByteArray.size_append,Bsz,sz_lit,List.length_cons,List.length_nil];omega) ?_
  conv=>whnf
  refine ast hd ?_
  conv=>whnf
  refine amc [1000000000] 600 hIm ?_
  conv=>whnf
  refine aneed (by simp only[ByteArray.size_append,Bsz,sz_lit,List.length_cons,List.length_nil];omega) ?_
  conv=>whnf
  refine aneed (by simp only[ByteArray.size_append,Bsz,sz_lit,List.length_cons,List.length_nil];omega) ?_
  conv=>whnf
  refine aidxi (by decide) rfl ?_
  conv=>whnf
  refine amc [1000000000] 700 hc1 ?_
  conv=>whnf
  refine aneed (by simp only[ByteArray.size_append,Bsz,sz_lit,List.length_cons,List.length_nil];omega) ?_
  conv=>whnf
  refine aneed (by simp only[ByteArray.size_append,Bsz,sz_lit,List.length_cons,List.length_nil];omega) ?_
  conv=>whnf
  refine aneed (by kernel_rfl) ?_
  conv=>whnf
  exact⟨.inl rfl,⟨rfl,rfl⟩,trivial⟩
 |one _ x _ hk hx=>
  rcases hk with rfl|rfl|rfl|rfl|rfl|rfl
  ·have hc:=called_spec 19 (by decide)
   have hcn:=called_len 19
   rw[show txE (.mk 19 0 emp [] [] [x] [] p)=[102,97,105,108]++([40]++com ([x].map txE)++[41]) by rw[txE,txEs_map];rfl]
   simp only[←catB,Bbs]
   have hj:=args (by intro z hz;simp only[List.mem_cons,List.not_mem_nil,or_false]at hz;subst hz;exact hx)
   unfold hW at hj hIm ⊢
   generalize com (List.map txE [x])=q at hj hcl
   refine AMem.intro (tyOf_ok Tryz.prog) hmix Tryz.func33 rfl (by rfl) (by kernel_rfl) (by show 1≤_;decide) rfl ?_
   conv=>whnf
   refine amc [1000000000] 300 hj ?_
   conv=>whnf
   refine aneed (by simp only[ByteArray.size_append,Bsz,sz_lit,List.length_cons,List.length_nil];omega) ?_
   conv=>whnf
   refine aneed (by simp only[ByteArray.size_append,Bsz,sz_lit,List.length_cons,List.length_nil];omega) ?_
   conv=>whnf
   refine apc hc ?_
   conv=>whnf
   refine aneed (by simp only[ByteArray.size_append,Bsz,sz_lit,List.length_cons,List.length_nil];omega) ?_
   conv=>whnf
   exact⟨.inl rfl,⟨rfl,rfl⟩,trivial⟩
  ·have hc:=called_spec 20 (by decide)
   have hcn:=called_len 20
   rw[show txE (.mk 20 0 emp [] [] [x] [] p)=[115,97,121]++([40]++com ([x].map txE)++[41]) by rw[txE,txEs_map];rfl]
   simp only[←catB,Bbs]
   have hj:=args (by intro z hz;simp only[List.mem_cons,List.not_mem_nil,or_false]at hz;subst hz;exact hx)
   unfold hW at hj hIm ⊢
   generalize com (List.map txE [x])=q at hj hcl
   refine AMem.intro (tyOf_ok Tryz.prog) hmix Tryz.func33 rfl (by rfl) (by kernel_rfl) (by show 1≤_;decide) rfl ?_
   conv=>whnf
   refine amc [1000000000] 300 hj ?_
   conv=>whnf
   refine aneed (by simp only[ByteArray.size_append,Bsz,sz_lit,List.length_cons,List.length_nil];omega) ?_
   conv=>whnf
   refine aneed (by simp only[ByteArray.size_append,Bsz,sz_lit,List.length_cons,List.length_nil];omega) ?_
   conv=>whnf
   refine apc hc ?_
   conv=>whnf
   refine aneed (by simp only[ByteArray.size_append,Bsz,sz_lit,List.length_cons,List.length_nil];omega) ?_
   conv=>whnf
   exact⟨.inl rfl,⟨rfl,rfl⟩,trivial⟩
  ·have hc:=called_spec 21 (by decide)
   have hcn:=called_len 21
   rw[show txE (.mk 21 0 emp [] [] [x] [] p)=[99,101,108,108]++([40]++com ([x].map txE)++[41]) by rw[txE,txEs_map];rfl]
   simp only[←catB,Bbs]
   have hj:=args (by intro z hz;simp only[List.mem_cons,List.not_mem_nil,or_false]at hz;subst hz;exact hx)
   unfold hW at hj hIm ⊢
   generalize com (List.map txE [x])=q at hj hcl
   refine AMem.intro (tyOf_ok Tryz.prog) hmix Tryz.func33 rfl (by rfl) (by kernel_rfl) (by show 1≤_;decide) rfl ?_
   conv=>whnf
   refine amc [1000000000] 300 hj ?_
   conv=>whnf
   refine aneed (by simp only[ByteArray.size_append,Bsz,sz_lit,List.length_cons,List.length_nil];omega) ?_
   conv=>whnf
   refine aneed (by simp only[ByteArray.size_append,Bsz,sz_lit,List.length_cons,List.length_nil];omega) ?_
   conv=>whnf
   refine apc hc ?_
   conv=>whnf
   refine aneed (by simp only[ByteArray.size_append,Bsz,sz_lit,List.length_cons,List.length_nil];omega) ?_
   conv=>whnf
   exact⟨.inl rfl,⟨rfl,rfl⟩,trivial⟩
  ·have hc:=called_spec 22 (by decide)
   have hcn:=called_len 22
   rw[show txE (.mk 22 0 emp [] [] [x] [] p)=[103,101,116]++([40]++com ([x].map txE)++[41]) by rw[txE,txEs_map];rfl]
   simp only[←catB,Bbs]
   have hj:=args (by intro z hz;simp only[List.mem_cons,List.not_mem_nil,or_false]at hz;subst hz;exact hx)
   unfold hW at hj hIm ⊢
   generalize com (List.map txE [x])=q at hj hcl
   refine AMem.intro (tyOf_ok Tryz.prog) hmix Tryz.func33 rfl (by rfl) (by kernel_rfl) (by show 1≤_;decide) rfl ?_
   conv=>whnf
   refine amc [1000000000] 300 hj ?_
   conv=>whnf
   refine aneed (by simp only[ByteArray.size_append,Bsz,sz_lit,List.length_cons,List.length_nil];omega) ?_
   conv=>whnf
   refine aneed (by simp only[ByteArray.size_append,Bsz,sz_lit,List.length_cons,List.length_nil];omega) ?_
   conv=>whnf
   refine apc hc ?_
   conv=>whnf
   refine aneed (by simp only[ByteArray.size_append,Bsz,sz_lit,List.length_cons,List.length_nil];omega) ?_
   conv=>whnf
   exact⟨.inl rfl,⟨rfl,rfl⟩,trivial⟩
  ·have hc:=called_spec 24 (by decide)
   have hcn:=called_len 24
   rw[show txE (.mk 24 0 emp [] [] [x] [] p)=[119,97,116,99,104]++([40]++com ([x].map txE)++[41]) by rw[txE,txEs_map];rfl]
   simp only[←catB,Bbs]
   have hj:=args (by intro z hz;simp only[List.mem_cons,List.not_mem_nil,or_false]at hz;subst hz;exact hx)
   unfold hW at hj hIm ⊢
   generalize com (List.map txE [x])=q at hj hcl
   refine AMem.intro (tyOf_ok Tryz.prog) hmix Tryz.func33 rfl (by rfl) (by kernel_rfl) (by show 1≤_;decide) rfl ?_
   conv=>whnf
   refine amc [1000000000] 300 hj ?_
   conv=>whnf
   refine aneed (by simp only[ByteArray.size_append,Bsz,sz_lit,List.length_cons,List.length_nil];omega) ?_
   conv=>whnf
   refine aneed (by simp only[ByteArray.size_append,Bsz,sz_lit,List.length_cons,List.length_nil];omega) ?_
   conv=>whnf
   refine apc hc ?_
   conv=>whnf
   refine aneed (by simp only[ByteArray.size_append,Bsz,sz_lit,List.length_cons,List.length_nil];omega) ?_
   conv=>whnf
   exact⟨.inl rfl,⟨rfl,rfl⟩,trivial⟩
  ·have hc:=called_spec 25 (by decide)
   have hcn:=called_len 25
   rw[show txE (.mk 25 0 emp [] [] [x] [] p)=[108,105,110,107]++([40]++com ([x].map txE)++[41]) by rw[txE,txEs_map];rfl]
   simp only[←catB,Bbs]
   have hj:=args (by intro z hz;simp only[List.mem_cons,List.not_mem_nil,or_false]at hz;subst hz;exact hx)
   unfold hW at hj hIm ⊢
   generalize com (List.map txE [x])=q at hj hcl
   refine AMem.intro (tyOf_ok Tryz.prog) hmix Tryz.func33 rfl (by rfl) (by kernel_rfl) (by show 1≤_;decide) rfl ?_
   conv=>whnf
   refine amc [1000000000] 300 hj ?_
   conv=>whnf
   refine aneed (by simp only[ByteArray.size_append,Bsz,sz_lit,List.length_cons,List.length_nil];omega) ?_
   conv=>whnf
   refine aneed (by simp only[ByteArray.size_append,Bsz,sz_lit,List.length_cons,List.length_nil];omega) ?_
   conv=>whnf
   refine apc hc ?_
   conv=>whnf
   refine aneed (by simp only[ByteArray.size_append,Bsz,sz_lit,List.length_cons,List.length_nil];omega) ?_
   conv=>whnf
   exact⟨.inl rfl,⟨rfl,rfl⟩,trivial⟩
 |two _ x y _ hk hx hy=>
  rcases hk with rfl|rfl
  ·have hc:=called_spec 15 (by decide)
   have hcn:=called_len 15
   rw[show txE (.mk 15 0 emp [] [] [x,y] [] p)=[115,101,110,100]++([40]++com ([x,y].map txE)++[41]) by rw[txE,txEs_map];rfl]
   simp only[←catB,Bbs]
   have hj:=args (by intro z hz;simp only[List.mem_cons,List.not_mem_nil,or_false]at hz;rcases hz with rfl|rfl;exact hx;exact hy)
   unfold hW at hj hIm ⊢
   generalize com (List.map txE [x,y])=q at hj hcl
   refine AMem.intro (tyOf_ok Tryz.prog) hmix Tryz.func33 rfl (by rfl) (by kernel_rfl) (by show 1≤_;decide) rfl ?_
   conv=>whnf
   refine amc [1000000000] 300 hj ?_
   conv=>whnf
   refine aneed (by simp only[ByteArray.size_append,Bsz,sz_lit,List.length_cons,List.length_nil];omega) ?_
   conv=>whnf
   refine aneed (by simp only[ByteArray.size_append,Bsz,sz_lit,List.length_cons,List.length_nil];omega) ?_
   conv=>whnf
   refine apc hc ?_
   conv=>whnf
   refine aneed (by simp only[ByteArray.size_append,Bsz,sz_lit,List.length_cons,List.length_nil];omega) ?_
   conv=>whnf
   exact⟨.inl rfl,⟨rfl,rfl⟩,trivial⟩
  ·have hc:=called_spec 23 (by decide)
   have hcn:=called_len 23
   rw[show txE (.mk 23 0 emp [] [] [x,y] [] p)=[112,117,116]++([40]++com ([x,y].map txE)++[41]) by rw[txE,txEs_map];rfl]
   simp only[←catB,Bbs]
   have hj:=args (by intro z hz;simp only[List.mem_cons,List.not_mem_nil,or_false]at hz;rcases hz with rfl|rfl;exact hx;exact hy)
   unfold hW at hj hIm ⊢
   generalize com (List.map txE [x,y])=q at hj hcl
   refine AMem.intro (tyOf_ok Tryz.prog) hmix Tryz.func33 rfl (by rfl) (by kernel_rfl) (by show 1≤_;decide) rfl ?_
   conv=>whnf
   refine amc [1000000000] 300 hj ?_
   conv=>whnf
   refine aneed (by simp only[ByteArray.size_append,Bsz,sz_lit,List.length_cons,List.length_nil];omega) ?_
   conv=>whnf
   refine aneed (by simp only[ByteArray.size_append,Bsz,sz_lit,List.length_cons,List.length_nil];omega) ?_
   conv=>whnf
   refine apc hc ?_
   conv=>whnf
   refine aneed (by simp only[ByteArray.size_append,Bsz,sz_lit,List.length_cons,List.length_nil];omega) ?_
   conv=>whnf
   exact⟨.inl rfl,⟨rfl,rfl⟩,trivial⟩
end SW
open Go Go.AM Go.Proofs Go.RowKit TR
set_option maxRecDepth 100000
namespace SW
open SH
theorem ps_len (ps:List ByteArray):(com (ps.map bs)).length≤32*PV.wts (ps.map eStr):=by
 have:=jn_len [44,32] (by decide) bs (fun s=>PV.wt (eStr s)) 32 ps (fun s _=>by
  have:=bs_size s
  have:PV.wt (eStr s)=s.size+1:=rfl
  omega)
 rw[wts_sum]
 exact this
theorem pars_len (ps:List ByteArray):(paramsB ps).length≤32*PV.wts (ps.map eStr)+2:=by
 have:=ps_len ps
 unfold paramsB
 cases ps.length==0 with
 |true=>simp
 |false=>simp only[cond_false,List.length_append,List.length_cons,List.length_nil];omega
theorem strs_len (ps:List ByteArray):ps.length≤PV.wts (ps.map eStr):=by
 have:=wts_len (l:=ps.map eStr) (fun x hx=>by obtain⟨y,_,rfl⟩:=List.mem_map.1 hx;show 1≤y.size+1;omega)
 rwa [List.length_map]at this
theorem head_len (f:LFu):(headB f).length≤64*wlFu f:=by
 have h1:=wlFu_eq f
 have h2:=pars_len f.ps
 have h3:=names_len f.ns f.ts
 have h4:=tl_T f.out
 have h5:=bs_size f.name
 have h6:=wE_pos f.body
 unfold headB
 simp only[List.length_append,List.length_cons,List.length_nil]
 omega
theorem head_spec (f:LFu) (h:OHead f) (hw:wlFu f≤1048576):APure Tryz.prog 29 [.p (elFu f)] (.p (.s (B (headB f)))):=by
 have h1:=wlFu_eq f
 have h2:=pars_len f.ps
 have h2':=ps_len f.ps
 have h3:=names_len f.ns f.ts
 have h4:=tl_T f.out
 have h7:=strs_len f.ps
 have hp:=params_spec f.ps (by omega) (by omega)
 have hn:=names_spec f.ns f.ts h.len (each_zero h.ts) (by omega)
 have ho:=type_spec f.out 1 h.out (by omega)
 unfold headB
 simp only[←catB,Bbs]
 obtain⟨nm,ps,ns,ts,out,body⟩:=f
 simp only at *
 generalize paramsB ps=z1 at *
 generalize namesB ns ts=z2 at *
 generalize txT out=z3 at *
 obtain⟨o1,o2,o3⟩:=out
 obtain⟨b1,b2,b3,b4,b5,b6,b7,b8⟩:=body
 refine APure.intro (tyOf_ok Tryz.prog) hmix Tryz.func29 rfl (by rfl) (by kernel_rfl) (by show 1≤_;decide) rfl ?_
 conv=>whnf
 refine aneed (by simp only[ByteArray.size_append,Bsz,sz_lit,List.length_cons,List.length_nil];omega) ?_
 conv=>whnf
 refine apc hp ?_
 conv=>whnf
 refine aneed (by simp only[ByteArray.size_append,Bsz,sz_lit,List.length_cons,List.length_nil];omega) ?_
 conv=>whnf
 refine apc hn ?_
 conv=>whnf
 refine aneed (by simp only[ByteArray.size_append,Bsz,sz_lit,List.length_cons,List.length_nil];omega) ?_
 conv=>whnf
 refine aneed (by simp only[ByteArray.size_append,Bsz,sz_lit,List.length_cons,List.length_nil];omega) ?_
 conv=>whnf
 refine apc ho ?_
 conv=>whnf
 refine aneed (by simp only[ByteArray.size_append,Bsz,sz_lit,List.length_cons,List.length_nil];omega) ?_
 conv=>whnf
 refine aneed (by kernel_rfl) ?_
 conv=>whnf
 exact .inl rfl
theorem fun_len (f:LFu) (hg:rgE f.body):(funB f).length≤128*wlFu f+5:=by
 have h1:=wlFu_eq f
 have h2:=head_len f
 have h3:=tl_E f.body hg
 unfold funB
 simp only[List.length_append,List.length_cons,List.length_nil]
 omega
theorem fun_spec {tab:List Value} (hI:ItoC tab) (f:LFu) (h:OFun f) (hw:wlFu f≤1048576):AMem Tryz.prog 30 [.p (elFu f)] (hW tab) (.p (.s (B (funB f)))) (hW tab):=by
 have h1:=wlFu_eq f
 have h2:=head_len f
 have h3:=tl_E f.body h.rg
 have hh:=head_spec f h.hd hw
 have he:=expr_spec hI f.body h.body h.rg (by omega)
 unfold funB
 simp only[←catB]
 generalize headB f=z1 at *
 obtain⟨nm,ps,ns,ts,out,body⟩:=f
 simp only at *
 generalize txE body=z2 at *
 obtain⟨o1,o2,o3⟩:=out
 obtain⟨b1,b2,b3,b4,b5,b6,b7,b8⟩:=body
 unfold hW at *
 refine AMem.intro (tyOf_ok Tryz.prog) hmix Tryz.func30 rfl (by rfl) (by kernel_rfl) (by show 1≤_;decide) rfl ?_
 conv=>whnf
 refine apc hh ?_
 conv=>whnf
 refine aneed (by simp only[ByteArray.size_append,Bsz,sz_lit,List.length_cons,List.length_nil];omega) ?_
 conv=>whnf
 refine amc [1000000000] 100 he ?_
 conv=>whnf
 refine aneed (by simp only[ByteArray.size_append,Bsz,sz_lit,List.length_cons,List.length_nil];omega) ?_
 conv=>whnf
 refine aneed (by simp only[ByteArray.size_append,Bsz,sz_lit,List.length_cons,List.length_nil];omega) ?_
 conv=>whnf
 refine aneed (by kernel_rfl) ?_
 conv=>whnf
 exact⟨.inl rfl,⟨rfl,rfl⟩,trivial⟩
theorem make_len (m:LMk):(makeB m).length+3≤32*PV.wt (elMk m):=by
 have h1:=wlMk_eq m
 have h2:=com_len txT wT 32 m.ts (fun t _=>tl_T t)
 rw[show(m.ts.map wT).sum=PV.wts (eTs m.ts) by rw[eTs_map,wts_sum];rfl]at h2
 have h3:=bs_size m.name
 unfold makeB
 cases m.ts.length==0 with
 |true=>simp only[cond_true];omega
 |false=>simp only[cond_false,List.length_append,List.length_cons,List.length_nil];omega
theorem dt_wt (d:LDt):PV.wt (elDt d)=d.name.size+1+(PV.wts (d.ps.map eStr)+1)+(PV.wts (d.makes.map elMk)+1):=by
 simp only[elDt,PV.wt,PV.wts];omega
theorem data_len (d:LDt):(dataB d).length≤64*PV.wt (elDt d):=by
 have h1:=dt_wt d
 have h2:=pars_len d.ps
 have h3:=jn_len [32,124,32] (by decide) makeB (fun m=>PV.wt (elMk m)) 32 d.makes (fun m _=>make_len m)
 rw[←wts_sum]at h3
 have h5:=bs_size d.name
 unfold dataB
 simp only[List.length_append,List.length_cons,List.length_nil]
 omega
theorem data_spec (d:LDt) (h:OData d) (hw:PV.wt (elDt d)≤1048576):APure Tryz.prog 28 [.p (elDt d)] (.p (.s (B (dataB d)))):=by
 have h1:=dt_wt d
 have h2:=pars_len d.ps
 have h2':=ps_len d.ps
 have h7:=strs_len d.ps
 have h3:=jn_len [32,124,32] (by decide) makeB (fun m=>PV.wt (elMk m)) 32 d.makes (fun m _=>make_len m)
 rw[←wts_sum]at h3
 have hp:=params_spec d.ps (by omega) (by omega)
 have hml:d.makes.length≤PV.wts (d.makes.map elMk):=by
  have:=wts_len (l:=d.makes.map elMk) (fun x hx=>by obtain⟨y,_,rfl⟩:=List.mem_map.1 hx;have:=wlMk_eq y;omega)
  rwa [List.length_map]at this
 have hj:=TK.join_spec (d.makes.map makeB) [32,124,32] (by rw[List.length_map];omega) (by omega)
 have hmk:=h.mks
 unfold dataB
 simp only[←catB,Bbs]
 obtain⟨nm,ps,mks⟩:=d
 simp only at *
 generalize paramsB ps=z1 at *
 generalize hq:Lib.join (mks.map makeB) [32,124,32]=q at *
 refine APure.intro (tyOf_ok Tryz.prog) hmix Tryz.func28 rfl (by rfl) (by kernel_rfl) (by show 1≤_;decide) rfl ?_
 conv=>whnf
 refine lp_nil 3 0 rfl ?_
 refine loopS (tyOf_ok _) hmix (by kernel_rfl) mks.length [1,3,8,9,10] [1] (fun k (s:List Bs)=>[.ptr 1 0,.so 1 (s.map TK.eStr),.p (.sl 2 (mks.map elMk)),.p (.i .i64 (mks.map elMk).length),.p (.i .i64 (ix k))]) (fun _ _=>[.cells [.p (.s nm),.p (.sl 1 (ps.map eStr)),.p (.sl 2 (mks.map elMk))]]) (fun k s=>s=(mks.take k).map makeB) [] ⟨rfl,rfl,rfl,rfl⟩ (by simp) ?_
 intro k s hk hs
 have hsl:s.length≤1048576:=by rw[hs];simp;omega
 conv=>whnf
 refine asplit ?_ ?_<;>intro h1<;>conv=>whnf
 ·have hk1:=ix_tt h1 (by simp) hk (by omega)
  obtain⟨b,hb1⟩:∃b,mks[k]?=some b:=⟨_,List.getElem?_eq_getElem hk1⟩
  have hm:=List.mem_of_getElem? hb1
  refine aidxk (x:=elMk b) (by simp[hb1]) (by omega) ?_
  have hbw:PV.wt (elMk b)≤PV.wts (mks.map elMk):=wts_mem (List.mem_map.2 ⟨b,hm,rfl⟩)
  have hbe:=wlMk_eq b
  have hlt:=wTs_len b.ts
  have hcl:=com_len txT wT 32 b.ts (fun t _=>tl_T t)
  rw[show(b.ts.map wT).sum=PV.wts (eTs b.ts) by rw[eTs_map,wts_sum];rfl]at hcl
  have hjt:=joinedT_spec b.ts (by omega) (by omega) (fun t ht=>type_spec t 1 (each_zero (hmk b hm).ts t ht) (by have:=wTs_mem ht;omega))
  have hts:(mks.take (k+1)).map makeB=s++[makeB b]:=by rw[take_snoc hb1,List.map_append,hs];rfl
  have hel:(eTs b.ts).length=b.ts.length:=eTs_len _
  obtain⟨bn,bt⟩:=b
  simp only at *
  have e2:B (makeB ⟨bn,bt⟩)=bif bt.length==0 then bn else bn++(⟨#[40]⟩++B (com (bt.map txT))++⟨#[41]⟩):=by
   unfold makeB
   simp only
   cases bt.length==0 with
   |true=>exact Bbs bn
   |false=>
    simp only[cond_false,←catB,Bbs]
    rw[show B [40]=⟨#[40]⟩ from rfl,show B [41]=⟨#[41]⟩ from rfl]
    apply ByteArray.ext
    simp[ByteArray.data_append,Array.append_assoc]
  generalize com (bt.map txT)=zt at *
  generalize makeB ⟨bn,bt⟩=zm at *
  conv=>whnf
  cases hz:bt.length==0 with
  |true=>
   rw[hz,cond_true]at e2
   have hz:=eq_of_beq hz
   refine asf (decide_eq_false (by rw[hel];omega)) ?_
   conv=>whnf
   refine aneed (show((s.map TK.eStr).length+1)*16≤140737488355328 by rw[List.length_map];omega) ?_
   conv=>whnf
   have h5:List.map TK.eStr (s++[zm])=s.map TK.eStr++[PV.s bn]:=by rw[List.map_append,←e2];rfl
   refine⟨hk1,_,⟨rfl,?_,rfl,rfl⟩,hts.symm⟩
   rw[h5];rfl
  |false=>
   rw[hz,cond_false]at e2
   have hz:bt.length≠0:=by simpa using hz
   refine ast (decide_eq_true (by rw[hel];omega)) ?_
   conv=>whnf
   refine apc hjt ?_
   conv=>whnf
   refine aneed (by simp only[ByteArray.size_append,Bsz,sz_lit,List.length_cons,List.length_nil];omega) ?_
   conv=>whnf
   refine aneed (by simp only[ByteArray.size_append,Bsz,sz_lit,List.length_cons,List.length_nil];omega) ?_
   conv=>whnf
   refine aneed (by simp only[ByteArray.size_append,Bsz,sz_lit,List.length_cons,List.length_nil];omega) ?_
   conv=>whnf
   refine aneed (show((s.map TK.eStr).length+1)*16≤140737488355328 by rw[List.length_map];omega) ?_
   conv=>whnf
   have h5:List.map TK.eStr (s++[zm])=s.map TK.eStr++[PV.s (bn++(⟨#[40]⟩++B zt++⟨#[41]⟩))]:=by rw[List.map_append,←e2];rfl
   refine⟨hk1,_,⟨rfl,?_,rfl,rfl⟩,hts.symm⟩
   rw[h5];rfl
 ·have hk1:=ix_ff h1 (by simp) hk (by omega)
  have hs2:s=mks.map makeB:=by rw[hs,hk1,List.take_length]
  subst hs2
  refine aneed (by simp only[ByteArray.size_append,Bsz,sz_lit,List.length_cons,List.length_nil];omega) ?_
  conv=>whnf
  refine apc hp ?_
  conv=>whnf
  refine aneed (by simp only[ByteArray.size_append,Bsz,sz_lit,List.length_cons,List.length_nil];omega) ?_
  conv=>whnf
  refine aneed (by simp only[ByteArray.size_append,Bsz,sz_lit,List.length_cons,List.length_nil];omega) ?_
  conv=>whnf
  refine apc hj ?_
  conv=>whnf
  refine aneed (by simp only[ByteArray.size_append,Bsz,sz_lit,List.length_cons,List.length_nil];omega) ?_
  conv=>whnf
  refine aneed (by simp only[ByteArray.size_append,Bsz,sz_lit,List.length_cons,List.length_nil];omega) ?_
  conv=>whnf
  refine aneed (by kernel_rfl) ?_
  conv=>whnf
  exact .inl rfl
end SW
