/-
  DERIVED. Contracts of functions that the law reaches, and the law, for every input. No conditions.
-/
import Derived.Test.YtmakmpapchiioaaGreatDoorSW4
import Derived.Test.YtmakmpapchiioaaGreatDoorLS2
import Derived.Test.YtmakmpapchiioaaGreatDoorAMHand
import Derived.Test.YtmakmpapchiioaaGreatDoorSWL
open Go Go.AM Go.Proofs Go.RowKit TR
set_option maxRecDepth 100000
namespace SW
open SH
theorem flat_wt {α:Type} (f:α→Bs) (e:α→PV) (c:Nat):∀(l:List α),(∀x∈l,(f x).length≤c*PV.wt (e x))→(l.flatMap f).length≤c*PV.wts (l.map e)
 | [],_=>by simp
 |x::r,h=>by
  have h1:=h x (by simp)
  have h2:=flat_wt f e c r (fun y hy=>h y (by simp[hy]))
  rw[List.flatMap_cons,List.length_append,List.map_cons,PV.wts,Nat.mul_add]
  omega
theorem flat_take {α:Type} (f:α→Bs):∀(l:List α) (k:Nat),((l.take k).flatMap f).length≤(l.flatMap f).length
 | [],k=>by simp
 |x::r,0=>by simp
 |x::r,k+1=>by
  have:=flat_take f r k
  rw[List.take_succ_cons,List.flatMap_cons,List.flatMap_cons,List.length_append,List.length_append]
  omega
theorem flat_snoc {α:Type} (f:α→Bs) {l:List α} {k:Nat} {x:α} (h:l[k]?=some x):(l.take (k+1)).flatMap f=(l.take k).flatMap f++f x:=by
 rw[take_snoc h,List.flatMap_append];simp
theorem use_len (u:LUse) (h:OUse u):(useB u).length≤256*PV.wt (elUse u):=by
 have h1:=wlUse_eq u
 have h2:=bs_size u.name
 have h3:=itoa_len (n:=u.low) ⟨by have:=h.lo.1;omega,by have:=h.lo.2;omega⟩
 have h4:=itoa_len (n:=u.high) ⟨by have:=h.hi.1;omega,by have:=h.hi.2;omega⟩
 unfold useB
 simp only[List.length_append,List.length_cons,List.length_nil]
 omega
theorem sig_len (f:LFu):(sigB f).length≤128*PV.wt (elFu f):=by
 have h1:=head_len f
 have h2:=wlFu_eq f
 have h3:=wE_pos f.body
 unfold sigB
 unfold wlFu at *
 simp only[List.length_append,List.length_cons,List.length_nil]
 omega
theorem in_len (f:LFu) (hg:rgE f.body):(inB f).length≤256*PV.wt (elFu f):=by
 have h1:=fun_len f hg
 have h2:=wlFu_eq f
 have h3:=wE_pos f.body
 unfold inB
 unfold wlFu at *
 simp only[List.length_append,List.length_cons,List.length_nil]
 omega
theorem trait_len (t:LTr):(traitB t).length≤256*PV.wt (elTr t):=by
 have h1:=wlTr_eq t
 have h2:=flat_wt sigB elFu 128 t.funcs (fun f _=>sig_len f)
 have h3:=bs_size t.name
 unfold traitB
 simp only[List.length_append,List.length_cons,List.length_nil]
 omega
theorem impl_len (t:LIm) (hg:∀f∈t.funcs,rgE f.body):(implB t).length≤256*PV.wt (elIm t):=by
 have h1:=wlIm_eq t
 have h2:=flat_wt inB elFu 256 t.funcs (fun f hf=>in_len f (hg f hf))
 have h3:=bs_size t.tr
 have h4:=bs_size t.fo
 unfold implB
 simp only[List.length_append,List.length_cons,List.length_nil]
 omega
theorem act_len (a:LAc) (hg:rgE a.body):(actB a).length≤256*PV.wt (elAc a):=by
 have h1:=wlAc_eq a
 have h2:=names_len a.ns a.ts
 have h3:=tl_T a.msg
 have h4:=tl_E a.body hg
 have h5:=bs_size a.name
 unfold actB
 simp only[List.length_append,List.length_cons,List.length_nil]
 omega
structure OPg (p:LPg):Prop where
 nm:lowB p.name=true
 ver:plainF p.ver=true
 ds:∀d∈decls p,ODc d
theorem OPg.use {p:LPg} (h:OPg p):∀u∈p.uses,OUse u:=fun u hu=>h.ds (.use u) (by unfold decls;simp[hu])
theorem OPg.data {p:LPg} (h:OPg p):∀u∈p.datas,OData u:=fun u hu=>h.ds (.data u) (by unfold decls;simp[hu])
theorem OPg.trait {p:LPg} (h:OPg p):∀t∈p.traits,upB t.name=true∧∀f∈t.funcs,OSig f:=fun u hu=>h.ds (.trait u) (by unfold decls;simp[hu])
theorem OPg.impl {p:LPg} (h:OPg p):∀x∈p.impls,upB x.tr=true∧(upB x.fo=true∨basicB x.fo=true)∧∀f∈x.funcs,OFun f:=fun u hu=>h.ds (.impl u) (by unfold decls;simp[hu])
theorem OPg.func {p:LPg} (h:OPg p):∀f∈p.funcs,OFun f:=fun u hu=>h.ds (.func u) (by unfold decls;simp[hu])
theorem OPg.act {p:LPg} (h:OPg p):∀a∈p.actors,OAct a:=fun u hu=>h.ds (.actor u) (by unfold decls;simp[hu])
def A0 (p:LPg):Bs:=modB p.name p.ver
def A1 (p:LPg):Bs:=A0 p++p.uses.flatMap useB
def A2 (p:LPg):Bs:=A1 p++p.datas.flatMap dataB
def A3 (p:LPg):Bs:=A2 p++p.traits.flatMap traitB
def A4 (p:LPg):Bs:=A3 p++p.impls.flatMap implB
def A5 (p:LPg):Bs:=A4 p++p.funcs.flatMap funB
def A6 (p:LPg):Bs:=A5 p++p.actors.flatMap actB
theorem A6_eq (p:LPg):A6 p=txPg p:=by
 unfold A6 A5 A4 A3 A2 A1 A0 txPg decls
 simp only[List.flatMap_append,List.flatMap_map,List.append_assoc]
 rfl
theorem wlPg_sum (p:LPg):wlPg p=p.name.size+8+PV.wts (p.uses.map elUse)+PV.wts (p.datas.map elDt)+PV.wts (p.traits.map elTr)+PV.wts (p.impls.map elIm)+PV.wts (p.funcs.map elFu)+PV.wts (p.actors.map elAc):=by
 rw[wlPg,elPg];simp only[PV.wt,PV.wts];omega
theorem A_len {p:LPg} (h:OPg p) (hw:wlPg p≤1048576):(A6 p).length≤1000000000∧(A0 p).length≤1000000000∧(A1 p).length≤1000000000∧(A2 p).length≤1000000000∧(A3 p).length≤1000000000∧(A4 p).length≤1000000000∧(A5 p).length≤1000000000:=by
 have h0:=wlPg_sum p
 have h1:=flat_wt useB elUse 256 p.uses (fun u hu=>use_len u (h.use u hu))
 have h2:=flat_wt dataB elDt 256 p.datas (fun d _=>by have:=data_len d;omega)
 have h3:=flat_wt traitB elTr 256 p.traits (fun t _=>trait_len t)
 have h4:=flat_wt implB elIm 256 p.impls (fun x hx=>impl_len x (fun f hf=>((h.impl x hx).2.2 f hf).rg))
 have h5:=flat_wt funB elFu 256 p.funcs (fun f hf=>by
  have:=fun_len f (h.func f hf).rg
  have h2:=wlFu_eq f
  have h3:=wE_pos f.body
  unfold wlFu at *
  omega)
 have h6:=flat_wt actB elAc 256 p.actors (fun a ha=>act_len a (h.act a ha).rg)
 have hv:=plain_i64 h.ver
 have h7:=itoa_len (n:=p.ver) ⟨by omega,by omega⟩
 have h8:=bs_size p.name
 have h9:(A0 p).length≤p.name.size+40:=by
  unfold A0 modB
  simp only[List.length_append,List.length_cons,List.length_nil]
  omega
 have e1:(A1 p).length=(A0 p).length+(p.uses.flatMap useB).length:=by rw[A1,List.length_append]
 have e2:(A2 p).length=(A1 p).length+(p.datas.flatMap dataB).length:=by rw[A2,List.length_append]
 have e3:(A3 p).length=(A2 p).length+(p.traits.flatMap traitB).length:=by rw[A3,List.length_append]
 have e4:(A4 p).length=(A3 p).length+(p.impls.flatMap implB).length:=by rw[A4,List.length_append]
 have e5:(A5 p).length=(A4 p).length+(p.funcs.flatMap funB).length:=by rw[A5,List.length_append]
 have e6:(A6 p).length=(A5 p).length+(p.actors.flatMap actB).length:=by rw[A6,List.length_append]
 refine⟨?_,?_,?_,?_,?_,?_,?_⟩<;>omega
end SW
open Go Go.AM Go.Proofs Go.RowKit TR
set_option maxRecDepth 100000
namespace SW
open SH
theorem bs_app (a b:ByteArray):bs (a++b)=bs a++bs b:=by simp[bs,ByteArray.data_append]
theorem bs_lit (l:Bs):bs ⟨l.toArray⟩=l:=by simp[bs]
theorem ws' (acc:Bs) (x:ByteArray) (hl:acc.length+x.size≤140737488355328):AMem Tryz.prog 26 [.ptr 1000000000 0,.p (.s x)] [(1000000000,.bld 89 5 acc)] (.tup [.p (.i .i64 x.size),.c .nilIface]) [(1000000000,.bld 89 5 (acc++bs x))]:=by
 have:=ws_spec acc (bs x) (by rw[bs_size];exact hl)
 rw[Bbs,bs_size]at this
 exact this
noncomputable def codeT:Code:=(Tryz.f12.body).getD .skip
noncomputable abbrev tyH:Nat→Option TI:=hint (tyOf Tryz.prog) 89 [5]
theorem tyH_ok:TyOK Tryz.prog tyH:=(tyOf_ok Tryz.prog).hint 89 [5]
theorem hmix:Tryz.prog.follows .mixedOrders=true:=by kernel_rfl
set_option maxHeartbeats 8000000 in
theorem text_walk {tab:List Value} (hI:ItoC tab) (p:LPg) (ok:OPg p) (hr:rPg p=0) (hw:wlPg p≤1048576) (K:Exit→Env→Heap→Prop):
 awpS tyH Tryz.prog Tryz.f12.ntmps (fun e h=>Atv [5] [5,1000000000] [.ptr 5 0] [.bld 89 5 (A6 p),.glob 0 tab] e h) K 10 codeT (argEnv 0 [.p (elPg p)]) (hW tab):=by
 have hR:=right_spec p hw
 rw[hr]at hR
 obtain⟨l6,l0,l1,l2,l3,l4,l5⟩:=A_len ok hw
 have hv:=plain_i64 ok.ver
 have hIv:=hI p.ver ⟨by omega,by omega⟩
 have hil:=itoa_len (n:=p.ver) ⟨by omega,by omega⟩
 have hns:=bs_size p.name
 have hwl:=wlPg_sum p
 have e0:A0 p=[]++bs (⟨#[109,111,100,117,108,101,32]⟩++p.name++⟨#[32]⟩++B (Lib.itoa p.ver)++⟨#[59,10]⟩):=by
  unfold A0 modB
  simp only[bs_app,B_bs,bs_lit,List.nil_append]
 unfold hW at *
 generalize hz:Lib.itoa p.ver=z at *
 conv=>whnf
 refine apc hR ?_
 conv=>whnf
 refine aneed (by simp only[ByteArray.size_append,Bsz,sz_lit,List.length_cons,List.length_nil];omega) ?_
 conv=>whnf
 refine aneed (by simp only[ByteArray.size_append,Bsz,sz_lit,List.length_cons,List.length_nil];omega) ?_
 conv=>whnf
 refine amc [1000000000] 200 hIv ?_
 conv=>whnf
 refine aneed (by simp only[ByteArray.size_append,Bsz,sz_lit,List.length_cons,List.length_nil];omega) ?_
 conv=>whnf
 refine aneed (by simp only[ByteArray.size_append,Bsz,sz_lit,List.length_cons,List.length_nil];omega) ?_
 conv=>whnf
 refine amc [5] 300 (ws' [] _ (by simp only[ByteArray.size_append,Bsz,sz_lit,List.length_cons,List.length_nil];omega)) ?_
 conv=>whnf
 refine aneed (by kernel_rfl) ?_
 conv=>whnf
 rw[←e0]
 have hd1:(p.uses.flatMap useB).length+(A0 p).length=(A1 p).length:=by rw[A1,List.length_append];omega
 have hd2:(p.datas.flatMap dataB).length+(A1 p).length=(A2 p).length:=by rw[A2,List.length_append];omega
 have hd3:(p.traits.flatMap traitB).length+(A2 p).length=(A3 p).length:=by rw[A3,List.length_append];omega
 have hd4:(p.impls.flatMap implB).length+(A3 p).length=(A4 p).length:=by rw[A4,List.length_append];omega
 have hd5:(p.funcs.flatMap funB).length+(A4 p).length=(A5 p).length:=by rw[A5,List.length_append];omega
 have hd6:(p.actors.flatMap actB).length+(A5 p).length=(A6 p).length:=by rw[A6,List.length_append];omega
 clear e0
 have w1:=l_wts elUse (fun m=>by rw[wlUse_eq];omega) p.uses
 have w2:=l_wts elDt (fun m=>by rw[wlDt_eq];omega) p.datas
 have w3:=l_wts elTr (fun m=>by rw[wlTr_eq];omega) p.traits
 have w4:=l_wts elIm (fun m=>by rw[wlIm_eq];omega) p.impls
 have w5:=l_wts elFu (fun m=>by have:=wlFu_eq m;rw[wlFu]at this;omega) p.funcs
 have w6:=l_wts elAc (fun m=>by rw[wlAc_eq];omega) p.actors
 refine loopS tyH_ok hmix (by kernel_rfl) p.uses.length [1,5,38,39,40] [1,5,1000000000] (fun k (_:Bs)=>[.ptr 1 0,.ptr 5 0,.p (.sl 3 (p.uses.map elUse)),.p (.i .i64 (p.uses.map elUse).length),.p (.i .i64 (ix k))]) (fun _ s=>[.cells [.p (.s p.name),.p (.i .i64 p.ver),.p (.sl 3 (p.uses.map elUse)),.p (.sl 3 (p.datas.map elDt)),.p (.sl 2 (p.traits.map elTr)),.p (.sl 3 (p.impls.map elIm)),.p (.sl 15 (p.funcs.map elFu)),.p (.sl 14 (p.actors.map elAc))],.bld 89 5 s,.glob 0 tab]) (fun k s=>s=A0 p++(p.uses.take k).flatMap useB) (A0 p) ⟨rfl,rfl,rfl,rfl⟩ (by simp) ?_
 intro k s hk hs
 have hft:=flat_take useB p.uses k
 have hcat:=congrArg List.length hs
 rw[List.length_append]at hcat
 conv=>whnf
 refine asplit ?_ ?_<;>intro h1<;>conv=>whnf
 ·have hk1:=ix_tt h1 (by simp) hk (by omega)
  obtain⟨b,hb1⟩:∃b,p.uses[k]?=some b:=⟨_,List.getElem?_eq_getElem hk1⟩
  have hm:=List.mem_of_getElem? hb1
  have hbw:PV.wt (elUse b)≤PV.wts (p.uses.map elUse):=wts_mem (List.mem_map.2 ⟨b,hm,rfl⟩)
  refine aidxk (x:=elUse b) (by simp[hb1]) (by omega) ?_
  have hu:=ok.use b hm
  have hI1:=hI b.low ⟨by have:=hu.lo.1;omega,by have:=hu.lo.2;omega⟩
  have hI2:=hI b.high ⟨by have:=hu.hi.1;omega,by have:=hu.hi.2;omega⟩
  have hL1:=itoa_len (n:=b.low) ⟨by have:=hu.lo.1;omega,by have:=hu.lo.2;omega⟩
  have hL2:=itoa_len (n:=b.high) ⟨by have:=hu.hi.1;omega,by have:=hu.hi.2;omega⟩
  have hbe:=wlUse_eq b
  have e1:A0 p++(p.uses.take (k+1)).flatMap useB=s++bs (⟨#[117,115,101,32]⟩++b.name++⟨#[32]⟩++B (Lib.itoa b.low)++⟨#[32]⟩++B (Lib.itoa b.high)++⟨#[59,10]⟩):=by
   rw[flat_snoc useB hb1,←List.append_assoc,←hs,useB]
   simp only[bs_app,B_bs,bs_lit]
  generalize Lib.itoa b.low=y1 at *
  generalize Lib.itoa b.high=y2 at *
  conv=>whnf
  refine aneed (by simp only[ByteArray.size_append,Bsz,sz_lit,List.length_cons,List.length_nil];omega) ?_
  conv=>whnf
  refine aneed (by simp only[ByteArray.size_append,Bsz,sz_lit,List.length_cons,List.length_nil];omega) ?_
  conv=>whnf
  refine amc [1000000000] 200 hI1 ?_
  conv=>whnf
  refine aneed (by simp only[ByteArray.size_append,Bsz,sz_lit,List.length_cons,List.length_nil];omega) ?_
  conv=>whnf
  refine aneed (by simp only[ByteArray.size_append,Bsz,sz_lit,List.length_cons,List.length_nil];omega) ?_
  conv=>whnf
  refine amc [1000000000] 210 hI2 ?_
  conv=>whnf
  refine aneed (by simp only[ByteArray.size_append,Bsz,sz_lit,List.length_cons,List.length_nil];omega) ?_
  conv=>whnf
  refine aneed (by simp only[ByteArray.size_append,Bsz,sz_lit,List.length_cons,List.length_nil];omega) ?_
  conv=>whnf
  refine amc [5] 300 (ws' s _ (by simp only[ByteArray.size_append,Bsz,sz_lit,List.length_cons,List.length_nil];omega)) ?_
  conv=>whnf
  refine aneed (by kernel_rfl) ?_
  conv=>whnf
  exact⟨hk1,_,⟨rfl,rfl,rfl,rfl⟩,e1.symm⟩
 have hk1:=ix_ff h1 (by simp) hk (by omega)
 rw[hk1,List.take_length]at hs
 obtain rfl:s=A1 p:=hs
 refine loopS tyH_ok hmix (by kernel_rfl) p.datas.length [1,5,61,62,63] [1,5,1000000000] (fun k (_:Bs)=>[.ptr 1 0,.ptr 5 0,.p (.sl 3 (p.datas.map elDt)),.p (.i .i64 (p.datas.map elDt).length),.p (.i .i64 (ix k))]) (fun _ s=>[.cells [.p (.s p.name),.p (.i .i64 p.ver),.p (.sl 3 (p.uses.map elUse)),.p (.sl 3 (p.datas.map elDt)),.p (.sl 2 (p.traits.map elTr)),.p (.sl 3 (p.impls.map elIm)),.p (.sl 15 (p.funcs.map elFu)),.p (.sl 14 (p.actors.map elAc))],.bld 89 5 s,.glob 0 tab]) (fun k s=>s=A1 p++(p.datas.take k).flatMap dataB) (A1 p) ⟨rfl,rfl,rfl,rfl⟩ (by simp) ?_
 intro k s hk hs
 have hft:=flat_take dataB p.datas k
 have hcat:=congrArg List.length hs
 rw[List.length_append]at hcat
 conv=>whnf
 refine asplit ?_ ?_<;>intro h1<;>conv=>whnf
 ·have hk1:=ix_tt h1 (by simp) hk (by omega)
  obtain⟨b,hb1⟩:∃b,p.datas[k]?=some b:=⟨_,List.getElem?_eq_getElem hk1⟩
  have hm:=List.mem_of_getElem? hb1
  have hbw:PV.wt (elDt b)≤PV.wts (p.datas.map elDt):=wts_mem (List.mem_map.2 ⟨b,hm,rfl⟩)
  refine aidxk (x:=elDt b) (by simp[hb1]) (by omega) ?_
  have hdl:=data_len b
  have hds:=data_spec b (ok.data b hm) (by omega)
  have e1:A1 p++(p.datas.take (k+1)).flatMap dataB=s++bs (B (dataB b)):=by
   rw[flat_snoc dataB hb1,←List.append_assoc,←hs,B_bs]
  generalize dataB b=y at *
  conv=>whnf
  refine apc hds ?_
  conv=>whnf
  refine amc [5] 300 (ws' s _ (by simp only[ByteArray.size_append,Bsz,sz_lit,List.length_cons,List.length_nil];omega)) ?_
  conv=>whnf
  exact⟨hk1,_,⟨rfl,rfl,rfl,rfl⟩,e1.symm⟩
 have hk1:=ix_ff h1 (by simp) hk (by omega)
 rw[hk1,List.take_length]at hs
 obtain rfl:s=A2 p:=hs
 refine loopS tyH_ok hmix (by kernel_rfl) p.traits.length [1,5,72,73,74] [1,5,1000000000] (fun k (_:Bs)=>[.ptr 1 0,.ptr 5 0,.p (.sl 2 (p.traits.map elTr)),.p (.i .i64 (p.traits.map elTr).length),.p (.i .i64 (ix k))]) (fun _ s=>[.cells [.p (.s p.name),.p (.i .i64 p.ver),.p (.sl 3 (p.uses.map elUse)),.p (.sl 3 (p.datas.map elDt)),.p (.sl 2 (p.traits.map elTr)),.p (.sl 3 (p.impls.map elIm)),.p (.sl 15 (p.funcs.map elFu)),.p (.sl 14 (p.actors.map elAc))],.bld 89 5 s,.glob 0 tab]) (fun k s=>s=A2 p++(p.traits.take k).flatMap traitB) (A2 p) ⟨rfl,rfl,rfl,rfl⟩ (by simp) ?_
 intro k s hk hs
 have hft:=flat_take traitB p.traits k
 have hcat:=congrArg List.length hs
 rw[List.length_append]at hcat
 conv=>whnf
 refine asplit ?_ ?_<;>intro h1<;>conv=>whnf
 ·have hk1:=ix_tt h1 (by simp) hk (by omega)
  obtain⟨b,hb1⟩:∃b,p.traits[k]?=some b:=⟨_,List.getElem?_eq_getElem hk1⟩
  have hm:=List.mem_of_getElem? hb1
  have hbw:PV.wt (elTr b)≤PV.wts (p.traits.map elTr):=wts_mem (List.mem_map.2 ⟨b,hm,rfl⟩)
  have hgt:(A6 p).length≤1000000000:=l6
  refine aidxk (x:=elTr b) (by simp[hb1]) (by omega) ?_
  have hbe:=wlTr_eq b
  have hfl:=l_wts elFu (fun m=>by have:=wlFu_eq m;rw[wlFu]at this;omega) b.funcs
  have hfs:=flat_wt sigB elFu 256 b.funcs (fun f _=>by have:=sig_len f;omega)
  have e1:A2 p++(p.traits.take (k+1)).flatMap traitB=(s++bs (⟨#[116,114,97,105,116,32]⟩++b.name++⟨#[32,123,10]⟩))++b.funcs.flatMap sigB++bs ⟨#[125,10]⟩:=by
   rw[flat_snoc traitB hb1,←List.append_assoc,←hs,traitB]
   simp only[bs_app,bs_lit,List.append_assoc]
  have hsz1:(s++bs (⟨#[116,114,97,105,116,32]⟩++b.name++⟨#[32,123,10]⟩)).length≤1000000000+1100000:=by
   rw[List.length_append,bs_size]
   simp only[ByteArray.size_append,sz_lit,List.length_cons,List.length_nil]
   omega
  conv=>whnf
  refine aneed (by simp only[ByteArray.size_append,Bsz,sz_lit,List.length_cons,List.length_nil];omega) ?_
  conv=>whnf
  refine aneed (by simp only[ByteArray.size_append,Bsz,sz_lit,List.length_cons,List.length_nil];omega) ?_
  conv=>whnf
  refine amc [5] 300 (ws' s _ (by simp only[ByteArray.size_append,Bsz,sz_lit,List.length_cons,List.length_nil];omega)) ?_
  conv=>whnf
  generalize s++bs (⟨#[116,114,97,105,116,32]⟩++b.name++⟨#[32,123,10]⟩)=s1 at *
  refine loopS tyH_ok hmix (by kernel_rfl) b.funcs.length [1,5,72,73,74,84,85,86] [1,5,1000000000] (fun j (_:Bs)=>[.ptr 1 0,.ptr 5 0,.p (.sl 2 (p.traits.map elTr)),.p (.i .i64 (p.traits.map elTr).length),.p (.i .i64 (ix k)),.p (.sl 15 (b.funcs.map elFu)),.p (.i .i64 (b.funcs.map elFu).length),.p (.i .i64 (ix j))]) (fun _ s2=>[.cells [.p (.s p.name),.p (.i .i64 p.ver),.p (.sl 3 (p.uses.map elUse)),.p (.sl 3 (p.datas.map elDt)),.p (.sl 2 (p.traits.map elTr)),.p (.sl 3 (p.impls.map elIm)),.p (.sl 15 (p.funcs.map elFu)),.p (.sl 14 (p.actors.map elAc))],.bld 89 5 s2,.glob 0 tab]) (fun j s2=>s2=s1++(b.funcs.take j).flatMap sigB) s1 ⟨rfl,rfl,rfl,rfl⟩ (by simp) ?_
  intro j s2 hj hs2
  have hft2:=flat_take sigB b.funcs j
  have hcat2:=congrArg List.length hs2
  rw[List.length_append]at hcat2
  conv=>whnf
  refine asplit ?_ ?_<;>intro h2<;>conv=>whnf
  ·have hj1:=ix_tt h2 (by simp) hj (by omega)
   obtain⟨f,hf1⟩:∃f,b.funcs[j]?=some f:=⟨_,List.getElem?_eq_getElem hj1⟩
   have hmf:=List.mem_of_getElem? hf1
   have hfw:PV.wt (elFu f)≤PV.wts (b.funcs.map elFu):=wts_mem (List.mem_map.2 ⟨f,hmf,rfl⟩)
   have hfw2:wlFu f≤1048576:=by unfold wlFu;omega
   refine aidxk (x:=elFu f) (by simp[hf1]) (by omega) ?_
   have hfh:=head_spec f ((ok.trait b hm).2 f hmf).hd hfw2
   have hfhl:=head_len f
   have e2:s1++(b.funcs.take (j+1)).flatMap sigB=s2++bs (⟨#[32,32]⟩++B (headB f)++⟨#[59,10]⟩):=by
    rw[flat_snoc sigB hf1,←List.append_assoc,←hs2,sigB]
    simp only[bs_app,B_bs,bs_lit]
   generalize headB f=y at *
   obtain⟨fn,fps,fns,fts,fo,fb⟩:=f
   obtain⟨o1,o2,o3⟩:=fo
   obtain⟨b1,b2,b3,b4,b5,b6,b7,b8⟩:=fb
   conv=>whnf
   refine apc hfh ?_
   conv=>whnf
   refine aneed (by simp only[ByteArray.size_append,Bsz,sz_lit,List.length_cons,List.length_nil];omega) ?_
   conv=>whnf
   refine aneed (by simp only[ByteArray.size_append,Bsz,sz_lit,List.length_cons,List.length_nil];omega) ?_
   conv=>whnf
   refine amc [5] 300 (ws' s2 _ (by simp only[ByteArray.size_append,Bsz,sz_lit,List.length_cons,List.length_nil];omega)) ?_
   conv=>whnf
   exact⟨hj1,_,⟨rfl,rfl,rfl,rfl⟩,e2.symm⟩
  ·have hj1:=ix_ff h2 (by simp) hj (by omega)
   rw[hj1,List.take_length]at hs2
   refine amc [5] 300 (ws' s2 _ (by simp only[ByteArray.size_append,Bsz,sz_lit,List.length_cons,List.length_nil];omega)) ?_
   conv=>whnf
   exact⟨hk1,_,⟨rfl,rfl,rfl,rfl⟩,by rw[e1,hs2]⟩
 have hk1:=ix_ff h1 (by simp) hk (by omega)
 rw[hk1,List.take_length]at hs
 obtain rfl:s=A3 p:=hs
 refine loopS tyH_ok hmix (by kernel_rfl) p.impls.length [1,5,99,100,101] [1,5,1000000000] (fun k (_:Bs)=>[.ptr 1 0,.ptr 5 0,.p (.sl 3 (p.impls.map elIm)),.p (.i .i64 (p.impls.map elIm).length),.p (.i .i64 (ix k))]) (fun _ s=>[.cells [.p (.s p.name),.p (.i .i64 p.ver),.p (.sl 3 (p.uses.map elUse)),.p (.sl 3 (p.datas.map elDt)),.p (.sl 2 (p.traits.map elTr)),.p (.sl 3 (p.impls.map elIm)),.p (.sl 15 (p.funcs.map elFu)),.p (.sl 14 (p.actors.map elAc))],.bld 89 5 s,.glob 0 tab]) (fun k s=>s=A3 p++(p.impls.take k).flatMap implB) (A3 p) ⟨rfl,rfl,rfl,rfl⟩ (by simp) ?_
 intro k s hk hs
 have hft:=flat_take implB p.impls k
 have hcat:=congrArg List.length hs
 rw[List.length_append]at hcat
 conv=>whnf
 refine asplit ?_ ?_<;>intro h1<;>conv=>whnf
 ·have hk1:=ix_tt h1 (by simp) hk (by omega)
  obtain⟨b,hb1⟩:∃b,p.impls[k]?=some b:=⟨_,List.getElem?_eq_getElem hk1⟩
  have hm:=List.mem_of_getElem? hb1
  have hbw:PV.wt (elIm b)≤PV.wts (p.impls.map elIm):=wts_mem (List.mem_map.2 ⟨b,hm,rfl⟩)
  have hgt:(A6 p).length≤1000000000:=l6
  refine aidxk (x:=elIm b) (by simp[hb1]) (by omega) ?_
  have hbe:=wlIm_eq b
  have hfl:=l_wts elFu (fun m=>by have:=wlFu_eq m;rw[wlFu]at this;omega) b.funcs
  have hfs:=flat_wt inB elFu 256 b.funcs (fun f hf=>in_len f ((ok.impl b hm).2.2 f hf).rg)
  have e1:A3 p++(p.impls.take (k+1)).flatMap implB=(s++bs (⟨#[105,109,112,108,32]⟩++b.tr++⟨#[32,102,111,114,32]⟩++b.fo++⟨#[32,123,10]⟩))++b.funcs.flatMap inB++bs ⟨#[125,10]⟩:=by
   rw[flat_snoc implB hb1,←List.append_assoc,←hs,implB]
   simp only[bs_app,bs_lit,List.append_assoc]
  have hsz1:(s++bs (⟨#[105,109,112,108,32]⟩++b.tr++⟨#[32,102,111,114,32]⟩++b.fo++⟨#[32,123,10]⟩)).length≤1000000000+1100000:=by
   rw[List.length_append,bs_size]
   simp only[ByteArray.size_append,sz_lit,List.length_cons,List.length_nil]
   omega
  conv=>whnf
  refine aneed (by simp only[ByteArray.size_append,Bsz,sz_lit,List.length_cons,List.length_nil];omega) ?_
  conv=>whnf
  refine aneed (by simp only[ByteArray.size_append,Bsz,sz_lit,List.length_cons,List.length_nil];omega) ?_
  conv=>whnf
  refine aneed (by simp only[ByteArray.size_append,Bsz,sz_lit,List.length_cons,List.length_nil];omega) ?_
  conv=>whnf
  refine aneed (by simp only[ByteArray.size_append,Bsz,sz_lit,List.length_cons,List.length_nil];omega) ?_
  conv=>whnf
  refine amc [5] 300 (ws' s _ (by simp only[ByteArray.size_append,Bsz,sz_lit,List.length_cons,List.length_nil];omega)) ?_
  conv=>whnf
  generalize s++bs (⟨#[105,109,112,108,32]⟩++b.tr++⟨#[32,102,111,114,32]⟩++b.fo++⟨#[32,123,10]⟩)=s1 at *
  refine loopS tyH_ok hmix (by kernel_rfl) b.funcs.length [1,5,99,100,101,115,116,117] [1,5,1000000000] (fun j (_:Bs)=>[.ptr 1 0,.ptr 5 0,.p (.sl 3 (p.impls.map elIm)),.p (.i .i64 (p.impls.map elIm).length),.p (.i .i64 (ix k)),.p (.sl 15 (b.funcs.map elFu)),.p (.i .i64 (b.funcs.map elFu).length),.p (.i .i64 (ix j))]) (fun _ s2=>[.cells [.p (.s p.name),.p (.i .i64 p.ver),.p (.sl 3 (p.uses.map elUse)),.p (.sl 3 (p.datas.map elDt)),.p (.sl 2 (p.traits.map elTr)),.p (.sl 3 (p.impls.map elIm)),.p (.sl 15 (p.funcs.map elFu)),.p (.sl 14 (p.actors.map elAc))],.bld 89 5 s2,.glob 0 tab]) (fun j s2=>s2=s1++(b.funcs.take j).flatMap inB) s1 ⟨rfl,rfl,rfl,rfl⟩ (by simp) ?_
  intro j s2 hj hs2
  have hft2:=flat_take inB b.funcs j
  have hcat2:=congrArg List.length hs2
  rw[List.length_append]at hcat2
  conv=>whnf
  refine asplit ?_ ?_<;>intro h2<;>conv=>whnf
  ·have hj1:=ix_tt h2 (by simp) hj (by omega)
   obtain⟨f,hf1⟩:∃f,b.funcs[j]?=some f:=⟨_,List.getElem?_eq_getElem hj1⟩
   have hmf:=List.mem_of_getElem? hf1
   have hfw:PV.wt (elFu f)≤PV.wts (b.funcs.map elFu):=wts_mem (List.mem_map.2 ⟨f,hmf,rfl⟩)
   have hfw2:wlFu f≤1048576:=by unfold wlFu;omega
   refine aidxk (x:=elFu f) (by simp[hf1]) (by omega) ?_
   have hof:=(ok.impl b hm).2.2 f hmf
   have hfh:=fun_spec hI f hof hfw2
   unfold hW at hfh
   have hfhl:=fun_len f hof.rg
   have e2:s1++(b.funcs.take (j+1)).flatMap inB=s2++bs (⟨#[32,32]⟩++B (funB f)):=by
    rw[flat_snoc inB hf1,←List.append_assoc,←hs2,inB]
    simp only[bs_app,B_bs,bs_lit]
   generalize funB f=y at *
   obtain⟨fn,fps,fns,fts,fo,fb⟩:=f
   obtain⟨o1,o2,o3⟩:=fo
   obtain⟨b1,b2,b3,b4,b5,b6,b7,b8⟩:=fb
   conv=>whnf
   refine amc [1000000000] 200 hfh ?_
   conv=>whnf
   refine aneed (by simp only[ByteArray.size_append,Bsz,sz_lit,List.length_cons,List.length_nil];omega) ?_
   conv=>whnf
   refine amc [5] 300 (ws' s2 _ (by simp only[ByteArray.size_append,Bsz,sz_lit,List.length_cons,List.length_nil];omega)) ?_
   conv=>whnf
   exact⟨hj1,_,⟨rfl,rfl,rfl,rfl⟩,e2.symm⟩
  ·have hj1:=ix_ff h2 (by simp) hj (by omega)
   rw[hj1,List.take_length]at hs2
   refine amc [5] 300 (ws' s2 _ (by simp only[ByteArray.size_append,Bsz,sz_lit,List.length_cons,List.length_nil];omega)) ?_
   conv=>whnf
   exact⟨hk1,_,⟨rfl,rfl,rfl,rfl⟩,by rw[e1,hs2]⟩
 have hk1:=ix_ff h1 (by simp) hk (by omega)
 rw[hk1,List.take_length]at hs
 obtain rfl:s=A4 p:=hs
 refine loopS tyH_ok hmix (by kernel_rfl) p.funcs.length [1,5,129,130,131] [1,5,1000000000] (fun k (_:Bs)=>[.ptr 1 0,.ptr 5 0,.p (.sl 15 (p.funcs.map elFu)),.p (.i .i64 (p.funcs.map elFu).length),.p (.i .i64 (ix k))]) (fun _ s=>[.cells [.p (.s p.name),.p (.i .i64 p.ver),.p (.sl 3 (p.uses.map elUse)),.p (.sl 3 (p.datas.map elDt)),.p (.sl 2 (p.traits.map elTr)),.p (.sl 3 (p.impls.map elIm)),.p (.sl 15 (p.funcs.map elFu)),.p (.sl 14 (p.actors.map elAc))],.bld 89 5 s,.glob 0 tab]) (fun k s=>s=A4 p++(p.funcs.take k).flatMap funB) (A4 p) ⟨rfl,rfl,rfl,rfl⟩ (by simp) ?_
 intro k s hk hs
 have hft:=flat_take funB p.funcs k
 have hcat:=congrArg List.length hs
 rw[List.length_append]at hcat
 conv=>whnf
 refine asplit ?_ ?_<;>intro h1<;>conv=>whnf
 ·have hk1:=ix_tt h1 (by simp) hk (by omega)
  obtain⟨b,hb1⟩:∃b,p.funcs[k]?=some b:=⟨_,List.getElem?_eq_getElem hk1⟩
  have hm:=List.mem_of_getElem? hb1
  have hbw:PV.wt (elFu b)≤PV.wts (p.funcs.map elFu):=wts_mem (List.mem_map.2 ⟨b,hm,rfl⟩)
  have hgt:(A6 p).length≤1000000000:=l6
  refine aidxk (x:=elFu b) (by simp[hb1]) (by omega) ?_
  have hof:=ok.func b hm
  have hfw2:wlFu b≤1048576:=by unfold wlFu;omega
  have hfh:=fun_spec hI b hof hfw2
  unfold hW at hfh
  have hfhl:=fun_len b hof.rg
  have e1:A4 p++(p.funcs.take (k+1)).flatMap funB=s++bs (B (funB b)):=by
   rw[flat_snoc funB hb1,←List.append_assoc,←hs,B_bs]
  generalize funB b=y at *
  obtain⟨fn,fps,fns,fts,fo,fb⟩:=b
  obtain⟨o1,o2,o3⟩:=fo
  obtain⟨b1,b2,b3,b4,b5,b6,b7,b8⟩:=fb
  conv=>whnf
  refine amc [1000000000] 200 hfh ?_
  conv=>whnf
  refine amc [5] 300 (ws' s _ (by simp only[ByteArray.size_append,Bsz,sz_lit,List.length_cons,List.length_nil];omega)) ?_
  conv=>whnf
  exact⟨hk1,_,⟨rfl,rfl,rfl,rfl⟩,e1.symm⟩
 have hk1:=ix_ff h1 (by simp) hk (by omega)
 rw[hk1,List.take_length]at hs
 obtain rfl:s=A5 p:=hs
 refine loopS tyH_ok hmix (by kernel_rfl) p.actors.length [1,5,140,141,142] [1,5,1000000000] (fun k (_:Bs)=>[.ptr 1 0,.ptr 5 0,.p (.sl 14 (p.actors.map elAc)),.p (.i .i64 (p.actors.map elAc).length),.p (.i .i64 (ix k))]) (fun _ s=>[.cells [.p (.s p.name),.p (.i .i64 p.ver),.p (.sl 3 (p.uses.map elUse)),.p (.sl 3 (p.datas.map elDt)),.p (.sl 2 (p.traits.map elTr)),.p (.sl 3 (p.impls.map elIm)),.p (.sl 15 (p.funcs.map elFu)),.p (.sl 14 (p.actors.map elAc))],.bld 89 5 s,.glob 0 tab]) (fun k s=>s=A5 p++(p.actors.take k).flatMap actB) (A5 p) ⟨rfl,rfl,rfl,rfl⟩ (by simp) ?_
 intro k s hk hs
 have hft:=flat_take actB p.actors k
 have hcat:=congrArg List.length hs
 rw[List.length_append]at hcat
 conv=>whnf
 refine asplit ?_ ?_<;>intro h1<;>conv=>whnf
 ·have hk1:=ix_tt h1 (by simp) hk (by omega)
  obtain⟨b,hb1⟩:∃b,p.actors[k]?=some b:=⟨_,List.getElem?_eq_getElem hk1⟩
  have hm:=List.mem_of_getElem? hb1
  have hbw:PV.wt (elAc b)≤PV.wts (p.actors.map elAc):=wts_mem (List.mem_map.2 ⟨b,hm,rfl⟩)
  have hgt:(A6 p).length≤1000000000:=l6
  refine aidxk (x:=elAc b) (by simp[hb1]) (by omega) ?_
  have hoa:=ok.act b hm
  have hae:=wlAc_eq b
  have hnm:=names_spec b.ns b.ts hoa.len (each_zero hoa.ts) (by omega)
  have hnml:=names_len b.ns b.ts
  have hty:=type_spec b.msg 1 hoa.msg (by omega)
  have htyl:=tl_T b.msg
  have hex:=expr_spec hI b.body hoa.body hoa.rg (by omega)
  have hexl:=tl_E b.body hoa.rg
  unfold hW at hex
  have e1:A5 p++(p.actors.take (k+1)).flatMap actB=s++bs (⟨#[97,99,116,111,114,32]⟩++b.name++B (namesB b.ns b.ts)++⟨#[58,32]⟩++B (txT b.msg)++⟨#[32,61,32]⟩++B (txE b.body)++⟨#[59,10]⟩):=by
   rw[flat_snoc actB hb1,←List.append_assoc,←hs,actB]
   simp only[bs_app,B_bs,bs_lit]
  obtain⟨an,ans,ats,am,ab⟩:=b
  simp only at *
  generalize namesB ans ats=y1 at *
  generalize txT am=y2 at *
  generalize txE ab=y3 at *
  obtain⟨o1,o2,o3⟩:=am
  obtain⟨b1,b2,b3,b4,b5,b6,b7,b8⟩:=ab
  conv=>whnf
  refine aneed (by simp only[ByteArray.size_append,Bsz,sz_lit,List.length_cons,List.length_nil];omega) ?_
  conv=>whnf
  refine apc hnm ?_
  conv=>whnf
  refine aneed (by simp only[ByteArray.size_append,Bsz,sz_lit,List.length_cons,List.length_nil];omega) ?_
  conv=>whnf
  refine aneed (by simp only[ByteArray.size_append,Bsz,sz_lit,List.length_cons,List.length_nil];omega) ?_
  conv=>whnf
  refine apc hty ?_
  conv=>whnf
  refine aneed (by simp only[ByteArray.size_append,Bsz,sz_lit,List.length_cons,List.length_nil];omega) ?_
  conv=>whnf
  refine aneed (by simp only[ByteArray.size_append,Bsz,sz_lit,List.length_cons,List.length_nil];omega) ?_
  conv=>whnf
  refine amc [1000000000] 200 hex ?_
  conv=>whnf
  refine aneed (by simp only[ByteArray.size_append,Bsz,sz_lit,List.length_cons,List.length_nil];omega) ?_
  conv=>whnf
  refine aneed (by simp only[ByteArray.size_append,Bsz,sz_lit,List.length_cons,List.length_nil];omega) ?_
  conv=>whnf
  refine amc [5] 300 (ws' s _ (by simp only[ByteArray.size_append,Bsz,sz_lit,List.length_cons,List.length_nil];omega)) ?_
  conv=>whnf
  refine aneed (by kernel_rfl) ?_
  conv=>whnf
  exact⟨hk1,_,⟨rfl,rfl,rfl,rfl⟩,e1.symm⟩
 have hk1:=ix_ff h1 (by simp) hk (by omega)
 rw[hk1,List.take_length]at hs
 obtain rfl:s=A6 p:=hs
 exact⟨rfl,rfl,rfl,rfl⟩
end SW
open Go Go.AM Go.Proofs Go.RowKit TR
set_option maxRecDepth 100000
namespace SW
open SH
theorem text_bad {tab:List Value} (p:LPg) (hr:(rPg p != 0)=true) (hw:wlPg p≤1048576):AMem Tryz.prog 12 [.p (elPg p)] (hW tab) (.tup [.p (.s ⟨#[]⟩),.p (.i .i64 (rPg p))]) (hW tab):=by
 have hR:=right_spec p hw
 generalize rPg p=r at *
 unfold hW
 refine AMem.intro (tyOf_ok Tryz.prog) hmix Tryz.func12 rfl (by rfl) (by kernel_rfl) (by show 1≤_;decide) rfl ?_
 conv=>whnf
 refine apc hR ?_
 conv=>whnf
 refine ast hr ?_
 conv=>whnf
 exact⟨.inl rfl,⟨rfl,rfl⟩,trivial⟩
theorem len_spec (bs:Bs):AMem Tryz.prog 34 [.ptr 1000000000 0] (bld bs) (.p (.i .i64 bs.length)) (bld bs):=by
 refine⟨⟨TK.body_of Tryz.func34 rfl (by rfl),rfl⟩,fun g w us hh hbn hlen hrel=>?_⟩
 match us,hlen with
 | [u1],_=>
 have r1:=hrel 0 u1 _ rfl rfl
 cases r1
 have hob:=hh.obj 1000000000 _ (hget_self ..)
 cases hob with
 |bld _ _ _ hbl=>
 obtain⟨p,v,hb,hp,hv⟩:=hbl
 obtain⟨ho1,ho2,ho3⟩:=brow_own hb hv
 have hB:Lib.IsBuilder tB tU 0 (g.ρ 1000000000) (bs.map fun c=>Value.int .u8 c.toNat) w:=by
  have:Lib.BuilderAt tB tU 0 (g.ρ 1000000000) p (bs.map fun c=>Value.int .u8 c.toNat) w:=⟨Nat.zero_le _,v,hb,by rw[List.length_map];exact ho1,ho2⟩
  rcases hp with rfl|rfl
  ·exact .inl this
  ·exact .inr this
 refine(Any.Builder_Len Tryz.lays170 0 (g.ρ 1000000000) _ w hB).mono ?_
 rintro e w' ⟨rfl,rfl⟩
 exact⟨_,g,rfl,by rw[List.length_map];exact .p _ _ _ (.i _ _),hh,hbn,Ext.refl _ _⟩
theorem text_big {tab:List Value} (hI:ItoC tab) (p:LPg) (ok:OPg p) (hr:rPg p=0) (hw:wlPg p≤1048576) (hl:(A6 p).length>4000):AMem Tryz.prog 12 [.p (elPg p)] (hW tab) (.tup [.p (.s ⟨#[]⟩),.p (.i .i64 2)]) (hW tab):=by
 refine AMem.introS (c:=codeT) tyH_ok Tryz.func12 (by rfl) (by rfl) (by show 1≤_;decide) rfl ?_
 refine awpS_sound tyH_ok hmix 10 codeT _ _ (by kernel_rfl) (fun e h ht=>AWp.mask ht (AWp.fin tyH_ok hmix (by kernel_rfl) ?_)) (text_walk hI p ok hr hw _)
 have hL:=len_spec (A6 p)
 unfold bld at hL
 generalize A6 p=z at *
 conv=>whnf
 refine amc [5] 300 hL ?_
 conv=>whnf
 refine ast (decide_eq_true (by omega)) ?_
 conv=>whnf
 exact⟨.inl rfl,⟨rfl,rfl⟩,trivial⟩
theorem string_run (b B0:Nat) (p v:Value) (bs:Bs) (w:World) (hb:w.heap[b]?=some (.cells #[p,v] tB (0,0))) (hp:p=.pointer none∨p=.pointer (some ⟨b,0,none⟩)) (hB:B0≤b)
 (hv:(v=.slice none 0 0∧bs=[])∨∃(bb cap:Nat) (cur:Array Value),v=.slice (some ⟨bb,0,none⟩) bs.length cap∧B0≤bb∧bb≠b∧w.heap[bb]?=some (.cells cur tU (0,0))∧bs.length≤cap∧cap≤9223372036854775807∧cur.size=cap∧cur.toList.take bs.length=bs.map fun c=>Value.int .u8 c.toNat):
 Calls Tryz.prog 35 #[.pointer (some ⟨b,0,none⟩)] w fun e w'=>e=.returned (.string (B bs))∧Below B0 w w':=by
 have hlt:b<w.heap.size:=(Array.getElem?_eq_some_iff.1 hb).1
 refine Any.Builder_String_any Tryz.lays169 Tryz.Builder_Extra_169 B0 b bs w ?_ (by omega)
 have:Lib.BuilderAt tB tU B0 b p (bs.map fun c=>Value.int .u8 c.toNat) w:=by
  refine⟨hB,v,hb,?_,?_⟩
  ·rcases hv with⟨rfl,rfl⟩|⟨bb,cap,cur,rfl,h1,h2,h3,h4,h5,h6,h7⟩
   ·exact⟨by simp,.inl ⟨rfl,rfl⟩⟩
   ·exact⟨by simp,.inr ⟨bb,cap,cur,by rw[List.length_map],h1,h3,by rw[List.length_map];exact h4,h5,by omega,by rw[List.length_map,Nat.mul_one];exact h7⟩⟩
  ·rcases hv with⟨rfl,rfl⟩|⟨bb,cap,cur,rfl,h1,h2,h3,h4,h5,h6,h7⟩
   ·intro e;cases e
   ·intro e
    simp only[Value.ownBlock,Option.some.injEq]at e
    exact h2 e
 rcases hp with rfl|rfl
 ·exact .inl this
 ·exact .inr this
theorem text_ok {tab:List Value} (hI:ItoC tab) (p:LPg) (ok:OPg p) (hr:rPg p=0) (hw:wlPg p≤1048576) (hl:(A6 p).length≤4000):AMem Tryz.prog 12 [.p (elPg p)] (hW tab) (.tup [.p (.s (B (A6 p))),.p (.i .i64 0)]) (hW tab):=by
 refine⟨⟨TK.body_of Tryz.func12 rfl (by rfl),rfl⟩,fun g w us hh hbn hlen hrel=>?_⟩
 let g0:Gh:={ pre:=g.pre,own:=fun _=>none,ρ:=g.ρ }
 have hgl:=hh.obj 1000000000 _ (hget_self ..)
 cases hgl with
 |glob _ _ hgl=>
 have hh0:HRel g0 w (hW tab):=glob_hrel rfl hgl.2
 have hrel0:∀(j:Nat) (v:Value) (x:AV),us[j]?=some v→[AV.p (elPg p)][j]?=some x→VRel g0 w (domOf (hW tab)) none v x:=by
  intro j v x h1 h2
  match j with
  |0=>
   have:=(hrel 0 v x h1 h2)
   cases h2
   exact .p _ _ _ this.pv
  |j+1=>simp at h2
 have s0:=Sim.start (fn:=Tryz.f12) (args:=[.p (elPg p)]) (by show 1≤_;decide) hh0 (fun b ow h=>by cases h) hlen hrel0
 refine calls_of_wp (c:=codeT) Tryz.func12 (by rfl) ?_
 refine wp_awpS tyH_ok hmix 10 codeT _ _ (by kernel_rfl) ?_ (text_walk hI p ok hr hw _) g0 w _ s0 (Ext.refl _ _)
 intro e1 h1 g1 w1 a1 hT s1 hE1
 have s1':=s1.mask (lv:=[5]) (ll:=[5,1000000000]) hT.1 (by rw[hT.2.1];exact hT.2.2.1) hT.2.2.2
 rw[hT.2.1]at s1'
 clear s1 hT e1 h1
 refine wp_awpS (T:=fun e h=>Atv [5] [5] [.ptr 5 0] [.bld tB tU (A6 p)] e h) tyH_ok hmix 1 (restS 10 codeT) _ _ (by kernel_rfl) ?_ ?_ g1 w1 a1 s1' hE1
 rotate_left
 ·have hL:=len_spec (A6 p)
  unfold bld at hL
  generalize A6 p=z at *
  conv=>whnf
  refine amc [5] 300 hL ?_
  conv=>whnf
  refine asf (decide_eq_false (by omega)) ?_
  conv=>whnf
  exact⟨rfl,rfl,rfl,rfl⟩
 clear s1' hE1 g1 w1 a1
 intro e1 h1 g1 w1 a1 hT s1 hE1
 have s:=s1.mask (lv:=[5]) (ll:=[5]) hT.1 (by rw[hT.2.1];exact hT.2.2.1) hT.2.2.2
 rw[hT.2.1]at s
 clear s1 hT e1 h1
 have hp5:a1.tmps[5]?.getD undef=.pointer (some ⟨g1.ρ 5,0,none⟩):=by have:=s.env 5;rw[←Array.getD_eq_getD_getElem?];generalize a1.tmps.getD 5 undef=v at this;cases this;rfl
 have hsz:a1.tmps.size=Tryz.f12.ntmps:=s.size
 have hob:=s.heap.obj 5 _ (hget_self ..)
 have ho5:=s.heap.own 5 _ (hget_self ..) rfl
 cases hob with
 |bld _ _ _ hbl=>
 obtain⟨pp,v,hb,hpp,hv⟩:=hbl
 have hnew:∀b o,g1.own b=some o→w.heap.size≤b:=fun b o ho=>by
  rcases Nat.lt_or_ge b w.heap.size with q|q
  ·have:=(hE1.kept b q rfl).2.2
   rw[ho]at this;cases this
  ·exact q
 have hrun:=string_run (g1.ρ 5) w.heap.size pp v (A6 p) w1 hb hpp (hnew _ _ ho5) (by
  rcases hv with h|⟨bb,cap,cur,q1,q2,_,q3,q4⟩
  ·exact .inl h
  ·exact .inr ⟨bb,cap,cur,q1,hnew _ _ q2,q3,q4⟩)
 conv=>arg 1;whnf
 refine wp_seq (wp_region ?_)
 rw[show Tryz.f12.ntmps=171 from rfl]at hsz
 simp[wpOps,go_sem,hsz,s.defers,hp5]
 refine .inl ?_
 have h5':a1.tmps[5]'(by omega)=.pointer (some ⟨g1.ρ 5,0,none⟩):=by rw[←hp5];simp[hsz]
 have hen:∀args w,(callFunc 35 args).run Tryz.prog w=.ok (.enter 35 args) w:=enters_of Tryz.func35 (by kernel_rfl) rfl
 rw[h5']
 refine Eq.mpr (congrArg _ (hen _ _)) ?_
 rw[Oper.upon_enter]
 refine hrun.mono ?_
 rintro e w' ⟨rfl,hbel⟩
 simp only[Act.put]
 refine .inl (.inl ?_)
 rw[show(a1.tmps.setIfInBounds 170 (Value.string (B (A6 p))))[170]?.getD undef=Value.string (B (A6 p)) by simp[hsz]]
 refine wp_ret ?_
 refine⟨s.defers,.tuple #[.string (B (A6 p)),.int .i64 0],?_,?_⟩
 ·simp[results,Tryz.results12,hsz]
 ·refine⟨_,rfl,{ pre:=g1.pre,own:=g.own,ρ:=g.ρ },?_,glob_hrel hgl.1 ?_,fun b ow h=>?_,?_⟩
  ·refine .tup _ [.string (B (A6 p)),.int .i64 0] _ rfl ?_
   intro j x c hj hc
   match j with
   |0=>cases hj;cases hc;exact .p _ _ _ (.s _)
   |1=>cases hj;cases hc;exact .p _ _ _ (.i _ _)
   |j+2=>simp at hj
  ·obtain⟨E,fr,hg2⟩:=hgl.2
   have hlt:=(Array.getElem?_eq_some_iff.1 hg2).1
   exact⟨E,fr,by rw[hbel.block 0 hlt,(hE1.kept 0 hlt rfl).1];exact hg2⟩
  ·have:=hbn b ow h
   have:=hE1.size
   have:=hbel.size
   omega
  ·have hsame:∀b,b<w.heap.size→w'.heap[b]?=w.heap[b]?:=fun b hb=>by rw[hbel.block b hb,(hE1.kept b hb rfl).1]
   refine⟨by have:=hE1.size;have:=hbel.size;omega,by rw[hbel.os];exact hE1.os,by rw[hbel.output];exact hE1.out,fun b o u hu=>?_,fun b hlt hno=>⟨hsame b hlt,(hE1.kept b hlt rfl).2.1,hno⟩,trivial,fun a ha=>frozen_same (hsame _ ha),fun _ _=>rfl,fun b cs E hbk=>⟨cs,E,by rw[hsame b (Array.getElem?_eq_some_iff.1 hbk).1];exact hbk,rfl⟩⟩
   have h2:=hE1.imm b o u hu
   unfold Go.AM.imm at h2 hu ⊢
   split at h2
   ·rename_i hpre
    rw[if_pos hpre]
    split at hu
    ·have hlt:=cell_lt hu
     rw[cell_same (a:=⟨b,o,none⟩) (hsame b hlt)];exact hu
    ·cases hu
   ·cases h2
end SW
