/-
  DERIVED. Contracts of functions that the law reaches, and the law, for every input. No conditions.
-/
import Derived.Test.YtmakmpapchiioaaGreatDoorTR7
import Derived.Test.YtmakmpapchiioaaGreatDoorLS2
import Derived.Test.YtmakmpapchiioaaGreatDoorSHE
import Derived.Test.YtmakmpapchiioaaGreatDoorSW9
import Derived.Test.YtmakmpapchiioaaGreatDoorPRD
open Go Go.AM Go.Proofs TR
set_option maxRecDepth 100000
namespace SX
open SH
theorem cl_clear (e:Ex):cl e=clearF e:=by
 refine Ex.ind (Q:=fun e=>cl e=clearF e) ?_ e
 intro k n t ns ts xs ms p h1 h2
 rw[cl_mk,clearF,clearFs_map,clearFa_map]
 congr 1
 ·exact List.map_congr_left h1
 ·refine List.map_congr_left fun a ha=>?_
  obtain⟨q,e⟩:=a
  have:=h2 (.mk q e) ha
  rw[clM_mk,clearA]
  simp only[Arm.body]at this
  rw[this]
theorem map_len {α β γ:Type} {f:α→γ} {g:β→γ} {l:List α} {r:List β} (h:l.map f=r.map g):l.length=r.length:=by
 have:=congrArg List.length h
 simpa using this
theorem map_at {α γ:Type} {f:α→γ} {l r:List α} (h:l.map f=r.map f) {k:Nat} {x y:α} (hx:l[k]?=some x) (hy:r[k]?=some y):f x=f y:=map_eq_get h hx hy
theorem equalUse_spec (l:List LUse) (hl:l.length≤1048576):APure Tryz.prog 48 [.p (.sl 3 (l.map elUse)),.p (.sl 3 (l.map elUse))] (.p (.b true)):=by
 refine APure.intro (tyOf_ok Tryz.prog) hmix Tryz.func48 rfl (by rfl) (by kernel_rfl) (by show 2≤_;decide) rfl ?_
 conv=>whnf
 refine asf (by simp) ?_
 conv=>whnf
 refine loopS (tyOf_ok _) hmix (by kernel_rfl) l.length [0,1,11,12,13] [] (fun k (_:Unit)=>[.p (.sl 3 (l.map elUse)),.p (.sl 3 (l.map elUse)),.p (.sl 3 (l.map elUse)),.p (.i .i64 (l.map elUse).length),.p (.i .i64 (ix k))]) (fun _ _=>[]) (fun _ _=>True) () ⟨rfl,rfl,rfl,rfl⟩ trivial ?_
 intro k _ hk _
 conv=>whnf
 refine asplit ?_ ?_<;>intro h1<;>conv=>whnf
 ·have hk1:=ix_tt h1 (by simp) hk (by omega)
  obtain⟨b,hb1⟩:∃b,l[k]?=some b:=⟨_,List.getElem?_eq_getElem hk1⟩
  refine aidxk (x:=elUse b) (by simp[hb1]) (by omega) ?_
  obtain⟨b1,b2,b3⟩:=b
  conv=>whnf
  refine aidxk (x:=elUse ⟨b1,b2,b3⟩) (by simp[hb1]) (by omega) ?_
  conv=>whnf
  generalize hE:eqKs Tryz.prog 49 _=E
  have hE2:E=[.ks,.ki .i64,.ki .i64]:=by rw[←hE];kernel_rfl
  subst hE2
  conv=>whnf
  refine aneed (by kernel_rfl) ?_
  conv=>whnf
  refine asf (by simp) ?_
  conv=>whnf
  exact⟨hk1,(),⟨rfl,rfl,rfl,rfl⟩,trivial⟩
 ·exact .inl rfl
theorem eqMk_spec (f:Nat) (l r:List LMk) (hl:l.length≤1048576) (hlr:l.length=r.length) (h:∀(k:Nat) (x y:LMk),l[k]?=some x→r[k]?=some y→APure Tryz.prog f [.p (elMk x),.p (elMk y)] (.p (.b true))):APure Tryz.prog 41 [.p (.sl 2 (l.map elMk)),.p (.sl 2 (r.map elMk)),.fn f [] []] (.p (.b true)):=by
 refine APure.intro (tyOf_ok Tryz.prog) hmix Tryz.func41 rfl (by rfl) (by kernel_rfl) (by show 3≤_;decide) rfl ?_
 conv=>whnf
 refine asf (by rw[List.length_map,List.length_map,hlr];simp) ?_
 conv=>whnf
 refine loopS (tyOf_ok _) hmix (by kernel_rfl) l.length [1,2,15,16,17] [] (fun k (_:Unit)=>[.p (.sl 2 (r.map elMk)),.fn f [] [],.p (.sl 2 (l.map elMk)),.p (.i .i64 (l.map elMk).length),.p (.i .i64 (ix k))]) (fun _ _=>[]) (fun k _=>True) () ⟨rfl,rfl,rfl,rfl⟩ trivial ?_
 intro k _ hk _
 conv=>whnf
 refine asplit ?_ ?_<;>intro h1<;>conv=>whnf
 ·have hk1:=ix_tt h1 (by simp) hk (by omega)
  obtain⟨b,hb1⟩:∃b,l[k]?=some b:=⟨_,List.getElem?_eq_getElem hk1⟩
  obtain⟨c,hc1⟩:∃b,r[k]?=some b:=⟨_,List.getElem?_eq_getElem (by omega)⟩
  refine aidxk (x:=elMk b) (by simp[hb1]) (by omega) ?_
  have hc:=h k b c hb1 hc1
  have hcg:(r.map elMk)[k]?=some (elMk c):=by simp[hc1]
  obtain⟨b1,b2⟩:=b
  conv=>whnf
  refine aidxk hcg (by omega) ?_
  obtain⟨c1,c2⟩:=c
  conv=>whnf
  refine apc hc ?_
  conv=>whnf
  exact⟨hk1,(),⟨rfl,rfl,rfl,rfl⟩,trivial⟩
 ·exact .inl rfl
theorem eqTr_spec (f:Nat) (l r:List LTr) (hl:l.length≤1048576) (hlr:l.length=r.length) (h:∀(k:Nat) (x y:LTr),l[k]?=some x→r[k]?=some y→APure Tryz.prog f [.p (elTr x),.p (elTr y)] (.p (.b true))):APure Tryz.prog 50 [.p (.sl 2 (l.map elTr)),.p (.sl 2 (r.map elTr)),.fn f [] []] (.p (.b true)):=by
 refine APure.intro (tyOf_ok Tryz.prog) hmix Tryz.func50 rfl (by rfl) (by kernel_rfl) (by show 3≤_;decide) rfl ?_
 conv=>whnf
 refine asf (by rw[List.length_map,List.length_map,hlr];simp) ?_
 conv=>whnf
 refine loopS (tyOf_ok _) hmix (by kernel_rfl) l.length [1,2,15,16,17] [] (fun k (_:Unit)=>[.p (.sl 2 (r.map elTr)),.fn f [] [],.p (.sl 2 (l.map elTr)),.p (.i .i64 (l.map elTr).length),.p (.i .i64 (ix k))]) (fun _ _=>[]) (fun k _=>True) () ⟨rfl,rfl,rfl,rfl⟩ trivial ?_
 intro k _ hk _
 conv=>whnf
 refine asplit ?_ ?_<;>intro h1<;>conv=>whnf
 ·have hk1:=ix_tt h1 (by simp) hk (by omega)
  obtain⟨b,hb1⟩:∃b,l[k]?=some b:=⟨_,List.getElem?_eq_getElem hk1⟩
  obtain⟨c,hc1⟩:∃b,r[k]?=some b:=⟨_,List.getElem?_eq_getElem (by omega)⟩
  refine aidxk (x:=elTr b) (by simp[hb1]) (by omega) ?_
  have hc:=h k b c hb1 hc1
  have hcg:(r.map elTr)[k]?=some (elTr c):=by simp[hc1]
  obtain⟨b1,b2⟩:=b
  conv=>whnf
  refine aidxk hcg (by omega) ?_
  obtain⟨c1,c2⟩:=c
  conv=>whnf
  refine apc hc ?_
  conv=>whnf
  exact⟨hk1,(),⟨rfl,rfl,rfl,rfl⟩,trivial⟩
 ·exact .inl rfl
theorem eqIm_spec (f:Nat) (l r:List LIm) (hl:l.length≤1048576) (hlr:l.length=r.length) (h:∀(k:Nat) (x y:LIm),l[k]?=some x→r[k]?=some y→APure Tryz.prog f [.p (elIm x),.p (elIm y)] (.p (.b true))):APure Tryz.prog 51 [.p (.sl 3 (l.map elIm)),.p (.sl 3 (r.map elIm)),.fn f [] []] (.p (.b true)):=by
 refine APure.intro (tyOf_ok Tryz.prog) hmix Tryz.func51 rfl (by rfl) (by kernel_rfl) (by show 3≤_;decide) rfl ?_
 conv=>whnf
 refine asf (by rw[List.length_map,List.length_map,hlr];simp) ?_
 conv=>whnf
 refine loopS (tyOf_ok _) hmix (by kernel_rfl) l.length [1,2,15,16,17] [] (fun k (_:Unit)=>[.p (.sl 3 (r.map elIm)),.fn f [] [],.p (.sl 3 (l.map elIm)),.p (.i .i64 (l.map elIm).length),.p (.i .i64 (ix k))]) (fun _ _=>[]) (fun k _=>True) () ⟨rfl,rfl,rfl,rfl⟩ trivial ?_
 intro k _ hk _
 conv=>whnf
 refine asplit ?_ ?_<;>intro h1<;>conv=>whnf
 ·have hk1:=ix_tt h1 (by simp) hk (by omega)
  obtain⟨b,hb1⟩:∃b,l[k]?=some b:=⟨_,List.getElem?_eq_getElem hk1⟩
  obtain⟨c,hc1⟩:∃b,r[k]?=some b:=⟨_,List.getElem?_eq_getElem (by omega)⟩
  refine aidxk (x:=elIm b) (by simp[hb1]) (by omega) ?_
  have hc:=h k b c hb1 hc1
  have hcg:(r.map elIm)[k]?=some (elIm c):=by simp[hc1]
  obtain⟨b1,b2,b3⟩:=b
  conv=>whnf
  refine aidxk hcg (by omega) ?_
  obtain⟨c1,c2,c3⟩:=c
  conv=>whnf
  refine apc hc ?_
  conv=>whnf
  exact⟨hk1,(),⟨rfl,rfl,rfl,rfl⟩,trivial⟩
 ·exact .inl rfl
theorem eqFu_spec (f:Nat) (l r:List LFu) (hl:l.length≤1048576) (hlr:l.length=r.length) (h:∀(k:Nat) (x y:LFu),l[k]?=some x→r[k]?=some y→APure Tryz.prog f [.p (elFu x),.p (elFu y)] (.p (.b true))):APure Tryz.prog 43 [.p (.sl 15 (l.map elFu)),.p (.sl 15 (r.map elFu)),.fn f [] []] (.p (.b true)):=by
 refine APure.intro (tyOf_ok Tryz.prog) hmix Tryz.func43 rfl (by rfl) (by kernel_rfl) (by show 3≤_;decide) rfl ?_
 conv=>whnf
 refine asf (by rw[List.length_map,List.length_map,hlr];simp) ?_
 conv=>whnf
 refine loopS (tyOf_ok _) hmix (by kernel_rfl) l.length [1,2,15,16,17] [] (fun k (_:Unit)=>[.p (.sl 15 (r.map elFu)),.fn f [] [],.p (.sl 15 (l.map elFu)),.p (.i .i64 (l.map elFu).length),.p (.i .i64 (ix k))]) (fun _ _=>[]) (fun k _=>True) () ⟨rfl,rfl,rfl,rfl⟩ trivial ?_
 intro k _ hk _
 conv=>whnf
 refine asplit ?_ ?_<;>intro h1<;>conv=>whnf
 ·have hk1:=ix_tt h1 (by simp) hk (by omega)
  obtain⟨b,hb1⟩:∃b,l[k]?=some b:=⟨_,List.getElem?_eq_getElem hk1⟩
  obtain⟨c,hc1⟩:∃b,r[k]?=some b:=⟨_,List.getElem?_eq_getElem (by omega)⟩
  refine aidxk (x:=elFu b) (by simp[hb1]) (by omega) ?_
  have hc:=h k b c hb1 hc1
  have hcg:(r.map elFu)[k]?=some (elFu c):=by simp[hc1]
  obtain⟨b1,b2,b3,b4,⟨b5,b6,b7⟩,⟨b8,b9,b10,b11,b12,b13,b14,b15⟩⟩:=b
  conv=>whnf
  refine aidxk hcg (by omega) ?_
  obtain⟨c1,c2,c3,c4,⟨c5,c6,c7⟩,⟨c8,c9,c10,c11,c12,c13,c14,c15⟩⟩:=c
  conv=>whnf
  refine apc hc ?_
  conv=>whnf
  exact⟨hk1,(),⟨rfl,rfl,rfl,rfl⟩,trivial⟩
 ·exact .inl rfl
theorem eqAc_spec (f:Nat) (l r:List LAc) (hl:l.length≤1048576) (hlr:l.length=r.length) (h:∀(k:Nat) (x y:LAc),l[k]?=some x→r[k]?=some y→APure Tryz.prog f [.p (elAc x),.p (elAc y)] (.p (.b true))):APure Tryz.prog 52 [.p (.sl 14 (l.map elAc)),.p (.sl 14 (r.map elAc)),.fn f [] []] (.p (.b true)):=by
 refine APure.intro (tyOf_ok Tryz.prog) hmix Tryz.func52 rfl (by rfl) (by kernel_rfl) (by show 3≤_;decide) rfl ?_
 conv=>whnf
 refine asf (by rw[List.length_map,List.length_map,hlr];simp) ?_
 conv=>whnf
 refine loopS (tyOf_ok _) hmix (by kernel_rfl) l.length [1,2,15,16,17] [] (fun k (_:Unit)=>[.p (.sl 14 (r.map elAc)),.fn f [] [],.p (.sl 14 (l.map elAc)),.p (.i .i64 (l.map elAc).length),.p (.i .i64 (ix k))]) (fun _ _=>[]) (fun k _=>True) () ⟨rfl,rfl,rfl,rfl⟩ trivial ?_
 intro k _ hk _
 conv=>whnf
 refine asplit ?_ ?_<;>intro h1<;>conv=>whnf
 ·have hk1:=ix_tt h1 (by simp) hk (by omega)
  obtain⟨b,hb1⟩:∃b,l[k]?=some b:=⟨_,List.getElem?_eq_getElem hk1⟩
  obtain⟨c,hc1⟩:∃b,r[k]?=some b:=⟨_,List.getElem?_eq_getElem (by omega)⟩
  refine aidxk (x:=elAc b) (by simp[hb1]) (by omega) ?_
  have hc:=h k b c hb1 hc1
  have hcg:(r.map elAc)[k]?=some (elAc c):=by simp[hc1]
  obtain⟨b1,b2,b3,⟨b5,b6,b7⟩,⟨b8,b9,b10,b11,b12,b13,b14,b15⟩⟩:=b
  conv=>whnf
  refine aidxk hcg (by omega) ?_
  obtain⟨c1,c2,c3,⟨c5,c6,c7⟩,⟨c8,c9,c10,c11,c12,c13,c14,c15⟩⟩:=c
  conv=>whnf
  refine apc hc ?_
  conv=>whnf
  exact⟨hk1,(),⟨rfl,rfl,rfl,rfl⟩,trivial⟩
 ·exact .inl rfl
theorem sameMk_spec (m:LMk) (hw:PV.wt (elMk m)≤1048576):APure Tryz.prog 36 [.p (elMk m),.p (elMk m)] (.p (.b true)):=by
 have h1:=wlMk_eq m
 have hl:=wTs_len m.ts
 have g2:=equalTy_spec 38 m.ts m.ts (by omega) rfl (fun k x y hx hy=>by rw[hx]at hy;cases hy;exact sameType_spec x (by have:=wTs_mem (List.mem_of_getElem? hx);omega))
 obtain⟨nm,ts⟩:=m
 refine APure.intro (tyOf_ok Tryz.prog) hmix Tryz.func36 rfl (by rfl) (by kernel_rfl) (by show 2≤_;decide) rfl ?_
 conv=>whnf
 refine ast (beqB _) ?_
 conv=>whnf
 refine apc g2 ?_
 conv=>whnf
 exact .inl rfl
def hF:Heap:=[(1000000000,.cells [.fn 36 [] []])]
theorem sameDt_spec (d:LDt) (hw:PV.wt (elDt d)≤1048576):AMem Tryz.prog 39 [.p (elDt d),.p (elDt d),.ptr 1000000000 0] hF (.p (.b true)) hF:=by
 have h1:PV.wt (elDt d)=d.name.size+1+(PV.wts (d.ps.map eStr)+1)+(PV.wts (d.makes.map elMk)+1):=by simp only[elDt,PV.wt,PV.wts];omega
 have hm:=l_wts elMk (fun m=>by rw[wlMk_eq];omega) d.makes
 have hp:d.ps.length≤PV.wts (d.ps.map eStr):=by
  have:=wts_len (l:=d.ps.map eStr) (fun x hx=>by obtain⟨y,_,rfl⟩:=List.mem_map.1 hx;show 1≤y.size+1;omega)
  rwa [List.length_map]at this
 have g1:=equalS_spec d.ps d.ps (by omega)
 rw[eqS_refl]at g1
 have g2:=eqMk_spec 36 d.makes d.makes (by omega) rfl (fun k x y hx hy=>by rw[hx]at hy;cases hy;exact sameMk_spec x (by have:=l_mem elMk (List.mem_of_getElem? hx);omega))
 obtain⟨nm,ps,ms⟩:=d
 unfold hF
 refine AMem.intro (tyOf_ok Tryz.prog) hmix Tryz.func39 rfl (by rfl) (by kernel_rfl) (by show 3≤_;decide) rfl ?_
 conv=>whnf
 refine ast (beqB _) ?_
 conv=>whnf
 refine apc g1 ?_
 conv=>whnf
 refine apc g2 ?_
 conv=>whnf
 exact⟨.inl rfl,⟨.inl rfl,trivial⟩,trivial⟩
theorem eqDt_spec (l:List LDt) (hw:PV.wts (l.map elDt)≤1048576):AMem Tryz.prog 49 [.p (.sl 3 (l.map elDt)),.p (.sl 3 (l.map elDt)),.fn 39 [] [.ptr 1000000000 0]] hF (.p (.b true)) hF:=by
 have hl:=l_wts elDt (fun m=>by rw[wlDt_eq];omega) l
 have h:=fun(b:LDt) (hb:b∈l)=>sameDt_spec b (by have:=l_mem elDt hb;omega)
 unfold hF at *
 refine AMem.intro (tyOf_ok Tryz.prog) hmix Tryz.func49 rfl (by rfl) (by kernel_rfl) (by show 3≤_;decide) rfl ?_
 conv=>whnf
 refine asf (by simp) ?_
 conv=>whnf
 refine loopS (tyOf_ok _) hmix (by kernel_rfl) l.length [1,2,15,16,17] [1000000000] (fun k (_:Unit)=>[.p (.sl 3 (l.map elDt)),.fn 39 [] [.ptr 1000000000 0],.p (.sl 3 (l.map elDt)),.p (.i .i64 (l.map elDt).length),.p (.i .i64 (ix k))]) (fun _ _=>[.cells [.fn 36 [] []]]) (fun k _=>True) () ⟨rfl,rfl,rfl,rfl⟩ trivial ?_
 intro k _ hk _
 conv=>whnf
 refine asplit ?_ ?_<;>intro h1<;>conv=>whnf
 ·have hk1:=ix_tt h1 (by simp) hk (by omega)
  obtain⟨b,hb1⟩:∃b,l[k]?=some b:=⟨_,List.getElem?_eq_getElem hk1⟩
  refine aidxk (x:=elDt b) (by simp[hb1]) (by omega) ?_
  have hc:=h b (List.mem_of_getElem? hb1)
  have hcg:(l.map elDt)[k]?=some (elDt b):=by simp[hb1]
  conv=>whnf
  refine aidxk hcg (by omega) ?_
  conv=>whnf
  refine amc [1000000000] 50 hc ?_
  conv=>whnf
  exact⟨hk1,(),⟨rfl,rfl,rfl,rfl⟩,trivial⟩
 ·exact⟨.inl rfl,⟨.inl rfl,trivial⟩,trivial⟩
theorem sameFu_spec (f g:LFu) (hw:wlFu f≤1048576) (h:clFu f=clFu g):APure Tryz.prog 44 [.p (elFu f),.p (elFu g)] (.p (.b true)):=by
 have h1:=wlFu_eq f
 obtain⟨nm,ps,ns,ts,out,body⟩:=f
 obtain⟨nm',ps',ns',ts',out',body'⟩:=g
 simp only[clFu,LFu.mk.injEq]at h
 obtain⟨rfl,rfl,rfl,rfl,rfl,hb⟩:=h
 simp only at h1
 have hp:∀l:List ByteArray,l.length≤PV.wts (l.map eStr):=fun l=>by
  have:=wts_len (l:=l.map eStr) (fun x hx=>by obtain⟨y,_,rfl⟩:=List.mem_map.1 hx;show 1≤y.size+1;omega)
  rwa [List.length_map]at this
 have p1:=hp ps
 have p2:=hp ns
 have hl:=wTs_len ts
 have g1:=equalS_spec ps ps (by omega)
 rw[eqS_refl]at g1
 have g2:=equalS_spec ns ns (by omega)
 rw[eqS_refl]at g2
 have g3:=equalTy_spec 38 ts ts (by omega) rfl (fun k x y hx hy=>by rw[hx]at hy;cases hy;exact sameType_spec x (by have:=wTs_mem (List.mem_of_getElem? hx);omega))
 have g4:=sameType_spec out (by omega)
 have g5:=sameExpr_spec body body' (by omega) (by rw[←cl_clear,←cl_clear];exact hb)
 obtain⟨o1,o2,o3⟩:=out
 obtain⟨b1,b2,b3,b4,b5,b6,b7,b8⟩:=body
 obtain⟨c1,c2,c3,c4,c5,c6,c7,c8⟩:=body'
 refine APure.intro (tyOf_ok Tryz.prog) hmix Tryz.func44 rfl (by rfl) (by kernel_rfl) (by show 2≤_;decide) rfl ?_
 conv=>whnf
 refine ast (beqB _) ?_
 conv=>whnf
 refine apc g1 ?_
 conv=>whnf
 refine apc g2 ?_
 conv=>whnf
 refine apc g3 ?_
 conv=>whnf
 refine apc g4 ?_
 conv=>whnf
 refine apc g5 ?_
 conv=>whnf
 exact .inl rfl
theorem sameTr_spec (t u:LTr) (hw:PV.wt (elTr t)≤1048576) (h:clTr t=clTr u):APure Tryz.prog 42 [.p (elTr t),.p (elTr u)] (.p (.b true)):=by
 have h1:=wlTr_eq t
 obtain⟨nm,fs⟩:=t
 obtain⟨nm',fs'⟩:=u
 simp only[clTr,LTr.mk.injEq]at h
 obtain⟨rfl,hf⟩:=h
 simp only at h1
 have hl:=l_wts elFu (fun m=>by have:=wlFu_eq m;rw[wlFu]at this;omega) fs
 have g:=eqFu_spec 44 fs fs' (by omega) (map_len hf) (fun k x y hx hy=>sameFu_spec x y (by have:=l_mem elFu (List.mem_of_getElem? hx);unfold wlFu;omega) (map_at hf hx hy))
 refine APure.intro (tyOf_ok Tryz.prog) hmix Tryz.func42 rfl (by rfl) (by kernel_rfl) (by show 2≤_;decide) rfl ?_
 conv=>whnf
 refine ast (beqB _) ?_
 conv=>whnf
 refine apc g ?_
 conv=>whnf
 exact .inl rfl
theorem sameIm_spec (t u:LIm) (hw:PV.wt (elIm t)≤1048576) (h:clIm t=clIm u):APure Tryz.prog 45 [.p (elIm t),.p (elIm u)] (.p (.b true)):=by
 have h1:=wlIm_eq t
 obtain⟨nm,fo,fs⟩:=t
 obtain⟨nm',fo',fs'⟩:=u
 simp only[clIm,LIm.mk.injEq]at h
 obtain⟨rfl,rfl,hf⟩:=h
 simp only at h1
 have hl:=l_wts elFu (fun m=>by have:=wlFu_eq m;rw[wlFu]at this;omega) fs
 have g:=eqFu_spec 44 fs fs' (by omega) (map_len hf) (fun k x y hx hy=>sameFu_spec x y (by have:=l_mem elFu (List.mem_of_getElem? hx);unfold wlFu;omega) (map_at hf hx hy))
 refine APure.intro (tyOf_ok Tryz.prog) hmix Tryz.func45 rfl (by rfl) (by kernel_rfl) (by show 2≤_;decide) rfl ?_
 conv=>whnf
 refine ast (beqB _) ?_
 conv=>whnf
 refine ast (beqB _) ?_
 conv=>whnf
 refine apc g ?_
 conv=>whnf
 exact .inl rfl
theorem sameAc_spec (f g:LAc) (hw:PV.wt (elAc f)≤1048576) (h:clAc f=clAc g):APure Tryz.prog 46 [.p (elAc f),.p (elAc g)] (.p (.b true)):=by
 have h1:=wlAc_eq f
 obtain⟨nm,ns,ts,out,body⟩:=f
 obtain⟨nm',ns',ts',out',body'⟩:=g
 simp only[clAc,LAc.mk.injEq]at h
 obtain⟨rfl,rfl,rfl,rfl,hb⟩:=h
 simp only at h1
 have p2:ns.length≤PV.wts (ns.map eStr):=by
  have:=wts_len (l:=ns.map eStr) (fun x hx=>by obtain⟨y,_,rfl⟩:=List.mem_map.1 hx;show 1≤y.size+1;omega)
  rwa [List.length_map]at this
 have hl:=wTs_len ts
 have g2:=equalS_spec ns ns (by omega)
 rw[eqS_refl]at g2
 have g3:=equalTy_spec 38 ts ts (by omega) rfl (fun k x y hx hy=>by rw[hx]at hy;cases hy;exact sameType_spec x (by have:=wTs_mem (List.mem_of_getElem? hx);omega))
 have g4:=sameType_spec out (by omega)
 have g5:=sameExpr_spec body body' (by omega) (by rw[←cl_clear,←cl_clear];exact hb)
 obtain⟨o1,o2,o3⟩:=out
 obtain⟨b1,b2,b3,b4,b5,b6,b7,b8⟩:=body
 obtain⟨c1,c2,c3,c4,c5,c6,c7,c8⟩:=body'
 refine APure.intro (tyOf_ok Tryz.prog) hmix Tryz.func46 rfl (by rfl) (by kernel_rfl) (by show 2≤_;decide) rfl ?_
 conv=>whnf
 refine ast (beqB _) ?_
 conv=>whnf
 refine apc g2 ?_
 conv=>whnf
 refine apc g3 ?_
 conv=>whnf
 refine apc g4 ?_
 conv=>whnf
 refine apc g5 ?_
 conv=>whnf
 exact .inl rfl
theorem same_spec (p q:LPg) (hw:wlPg p≤1048576) (h:clPg p=clPg q):APure Tryz.prog 13 [.p (elPg p),.p (elPg q)] (.p (.b true)):=by
 rw[wlPg_eq]at hw
 obtain⟨nm,ver,us,ds,ts,is,fs,acs⟩:=p
 obtain⟨nm',ver',us',ds',ts',is',fs',acs'⟩:=q
 simp only[clPg,LPg.mk.injEq]at h
 obtain⟨rfl,rfl,rfl,rfl,h1,h2,h3,h4⟩:=h
 simp only at hw
 have w1:=l_wts elUse (fun m=>by rw[wlUse_eq];omega) us
 have w3:=l_wts elTr (fun m=>by rw[wlTr_eq];omega) ts
 have w4:=l_wts elIm (fun m=>by rw[wlIm_eq];omega) is
 have w5:=l_wts elFu (fun m=>by have:=wlFu_eq m;rw[wlFu]at this;omega) fs
 have w6:=l_wts elAc (fun m=>by rw[wlAc_eq];omega) acs
 have g1:=equalUse_spec us (by omega)
 have g2:=eqDt_spec ds (by omega)
 have g3:=eqTr_spec 42 ts ts' (by omega) (map_len h1) (fun k x y hx hy=>sameTr_spec x y (by have:=l_mem elTr (List.mem_of_getElem? hx);omega) (map_at h1 hx hy))
 have g4:=eqIm_spec 45 is is' (by omega) (map_len h2) (fun k x y hx hy=>sameIm_spec x y (by have:=l_mem elIm (List.mem_of_getElem? hx);omega) (map_at h2 hx hy))
 have g5:=eqFu_spec 44 fs fs' (by omega) (map_len h3) (fun k x y hx hy=>sameFu_spec x y (by have:=l_mem elFu (List.mem_of_getElem? hx);unfold wlFu;omega) (map_at h3 hx hy))
 have g6:=eqAc_spec 46 acs acs' (by omega) (map_len h4) (fun k x y hx hy=>sameAc_spec x y (by have:=l_mem elAc (List.mem_of_getElem? hx);omega) (map_at h4 hx hy))
 unfold hF at g2
 refine APure.intro (tyOf_ok Tryz.prog) hmix Tryz.func13 rfl (by rfl) (by kernel_rfl) (by show 2≤_;decide) rfl ?_
 conv=>whnf
 refine ast (beqB _) ?_
 conv=>whnf
 refine ast (beqI _) ?_
 conv=>whnf
 refine apc g1 ?_
 conv=>whnf
 refine amc [5] 100 g2 ?_
 conv=>whnf
 refine apc g3 ?_
 conv=>whnf
 refine apc g4 ?_
 conv=>whnf
 refine apc g5 ?_
 conv=>whnf
 refine apc g6 ?_
 conv=>whnf
 exact .inl rfl
end SX
open Go Go.AM Go.Proofs TR TK PA
set_option maxRecDepth 100000
namespace SX
open SH SW
theorem rEs_each (be:Bool):∀(l:List Ex),rEs l be=eachF (fun e=>rE e be) l
 | []=>by rw[rEs,eachF]
 |t::r=>by rw[rEs,eachF,rEs_each be r]
theorem rAs_each (be:Bool):∀(l:List Arm),rAs l be=eachF (rA be) l
 | []=>by rw[rAs,eachF]
 |.mk p e::r=>by rw[rAs,eachF,rAs_each be r];rfl
theorem each_map {α β:Type} (φ:β→Int) (f:α→β) (ψ:α→Int):∀(l:List α),(∀x∈l,φ (f x)=ψ x)→eachF φ (l.map f)=eachF ψ l
 | [],_=>rfl
 |x::r,h=>by rw[List.map_cons,eachF,eachF,h x (by simp),each_map φ f ψ r (fun y hy=>h y (by simp[hy]))]
theorem rE_cl (e:Ex):∀be,rE (cl e) be=rE e be:=by
 refine Ex.ind (Q:=fun e=>∀be,rE (cl e) be=rE e be) ?_ e
 intro k n t ns ts xs ms p h1 h2 be
 have hx:∀be,rEs (xs.map cl) be=rEs xs be:=fun be=>by rw[rEs_each,rEs_each];exact each_map _ _ _ xs (fun x hx=>h1 x hx be)
 have hm:∀be,rAs (ms.map clM) be=rAs ms be:=fun be=>by
  rw[rAs_each,rAs_each]
  refine each_map _ _ _ ms (fun a ha=>?_)
  have:=h2 a ha be
  obtain⟨q,e⟩:=a
  rw[clM_mk]
  unfold rA
  simp only[Arm.pat,Arm.body]at this ⊢
  rw[this]
 rw[cl_mk,rE,rE,List.length_map,List.length_map,hx,hx,hm,hm]
theorem size_cl (e:Ex):sizeF (cl e)=sizeF e:=by
 refine Ex.ind (Q:=fun e=>sizeF (cl e)=sizeF e) ?_ e
 intro k n t ns ts xs ms p h1 h2
 have hx:sizeFs (xs.map cl)=sizeFs xs:=by
  clear h2
  induction xs with
  |nil=>rfl
  |cons x r ih=>rw[List.map_cons,sizeFs,sizeFs,h1 x (by simp),ih (fun y hy=>h1 y (by simp[hy]))]
 have hm:sizeFa (ms.map clM)=sizeFa ms:=by
  clear h1 hx
  induction ms with
  |nil=>rfl
  |cons a r ih=>
   have:=h2 a (by simp)
   obtain⟨q,e⟩:=a
   rw[List.map_cons,clM_mk,sizeFa,sizeFa,ih (fun y hy=>h2 y (by simp[hy]))]
   simp only[Arm.body]at this
   rw[this]
 rw[cl_mk,sizeF,sizeF,hx,hm]
theorem deep_cl (e:Ex):deepF (cl e)=deepF e:=by
 refine Ex.ind (Q:=fun e=>deepF (cl e)=deepF e) ?_ e
 intro k n t ns ts xs ms p h1 h2
 have hx:deepFs (xs.map cl)=deepFs xs:=by
  clear h2
  induction xs with
  |nil=>rfl
  |cons x r ih=>rw[List.map_cons,deepFs,deepFs,h1 x (by simp),ih (fun y hy=>h1 y (by simp[hy]))]
 have hm:deepFa (ms.map clM)=deepFa ms:=by
  clear h1 hx
  induction ms with
  |nil=>rfl
  |cons a r ih=>
   have:=h2 a (by simp)
   obtain⟨q,e⟩:=a
   rw[List.map_cons,clM_mk,deepFa,deepFa,ih (fun y hy=>h2 y (by simp[hy]))]
   simp only[Arm.body]at this
   rw[this]
 rw[cl_mk,deepF,deepF,hx,hm]
theorem body_cl (e:Ex) (be:Bool):rBody (cl e) be=rBody e be:=by unfold rBody;rw[size_cl,deep_cl,rE_cl]
theorem zero_cl' (e:Ex):zeroE (cl e)=zeroE e:=by
 obtain⟨k,m,t,ns,ts,xs,ms,p⟩:=e
 rw[cl_mk]
 unfold zeroE
 simp only[Ex.kind,Ex.num,Ex.text,Ex.names,Ex.types,Ex.args,Ex.arms,List.length_map]
theorem rFu_cl (f:LFu):rFu (clFu f)=rFu f:=by
 unfold rFu
 rw[show rHead (clFu f)=rHead f from rfl,show(clFu f).body=cl f.body from rfl,body_cl]
theorem rTF_cl (f:LFu):rTF (clFu f)=rTF f:=by
 unfold rTF
 rw[show rHead (clFu f)=rHead f from rfl,show(clFu f).body=cl f.body from rfl,zero_cl']
theorem rTr_cl (t:LTr):rTr (clTr t)=rTr t:=by
 unfold rTr clTr
 simp only[List.length_map]
 rw[each_map rTF clFu rTF _ (fun f _=>rTF_cl f)]
theorem rIm_cl (t:LIm):rIm (clIm t)=rIm t:=by
 unfold rIm clIm
 simp only[List.length_map]
 rw[each_map rFu clFu rFu _ (fun f _=>rFu_cl f)]
theorem rAc_cl (a:LAc):rAc (clAc a)=rAc a:=by
 unfold rAc
 rw[show(clAc a).body=cl a.body from rfl,body_cl]
 rfl
theorem rPg_cl (p:LPg):rPg (clPg p)=rPg p:=by
 unfold rPg clPg
 simp only[List.length_map]
 rw[each_map rTr clTr rTr _ (fun f _=>rTr_cl f),each_map rIm clIm rIm _ (fun f _=>rIm_cl f),each_map rFu clFu rFu _ (fun f _=>rFu_cl f),each_map rAc clAc rAc _ (fun f _=>rAc_cl f)]
theorem wt_cl (e:Ex):wE (cl e)=wE e:=by
 refine Ex.ind (Q:=fun e=>wE (cl e)=wE e) ?_ e
 intro k n t ns ts xs ms p h1 h2
 have hx:PV.wts (eEs (xs.map cl))=PV.wts (eEs xs):=by
  rw[eEs_map,eEs_map,wts_sum,wts_sum,List.map_map]
  congr 1
  exact List.map_congr_left h1
 have hm:PV.wts (eAs (ms.map clM))=PV.wts (eAs ms):=by
  rw[eAs_map,eAs_map,wts_sum,wts_sum,List.map_map]
  congr 1
  refine List.map_congr_left fun a ha=>?_
  have:=h2 a ha
  obtain⟨q,e⟩:=a
  show wA (clM (.mk q e))=wA (.mk q e)
  rw[clM_mk,wA_mk,wA_mk]
  simp only[Arm.body]at this
  rw[this]
 rw[cl_mk,wE_mk,wE_mk,hx,hm]
theorem wts_cl {α:Type} (e:α→PV) (f:α→α) (l:List α) (h:∀x∈l,PV.wt (e (f x))=PV.wt (e x)):PV.wts ((l.map f).map e)=PV.wts (l.map e):=by
 rw[wts_sum,wts_sum,List.map_map]
 congr 1
 exact List.map_congr_left h
theorem wFu_cl (f:LFu):PV.wt (elFu (clFu f))=PV.wt (elFu f):=by
 have h1:=wlFu_eq f
 have h2:=wlFu_eq (clFu f)
 unfold wlFu at h1 h2
 rw[h1,h2]
 show _+wE (cl f.body)=_
 rw[wt_cl]
 rfl
theorem wPg_cl (p:LPg):wlPg (clPg p)=wlPg p:=by
 rw[wlPg_sum,wlPg_sum]
 unfold clPg
 simp only
 rw[wts_cl elTr clTr _ (fun t _=>by
    rw[wlTr_eq,wlTr_eq]
    unfold clTr
    simp only
    rw[wts_cl elFu clFu _ (fun f _=>wFu_cl f)]),
  wts_cl elIm clIm _ (fun t _=>by
   rw[wlIm_eq,wlIm_eq]
   unfold clIm
   simp only
   rw[wts_cl elFu clFu _ (fun f _=>wFu_cl f)]),
  wts_cl elFu clFu _ (fun f _=>wFu_cl f),
  wts_cl elAc clAc _ (fun a _=>by
   rw[wlAc_eq,wlAc_eq]
   unfold clAc
   simp only
   rw[wt_cl])]
def rgPg (p:LPg):Prop:=(∀x∈p.impls,∀f∈x.funcs,rgE f.body)∧(∀f∈p.funcs,rgE f.body)∧∀a∈p.actors,rgE a.body
theorem next_zero {c x:Int} (h:nextE c x=0):c=0∧x=0:=bifz h
theorem use_ok {u:LUse} (h:rUse u=0):OUse u:=by
 unfold rUse whenF at h
 have:=(bif0 (by decide) h).1
 simp only[Bool.or_eq_false_iff,Bool.not_eq_false',decide_eq_false_iff_not]at this
 exact⟨this.1,plain_i64 this.2.1,plain_i64 this.2.2.1⟩
theorem mk_ok {m:LMk} (h:rMk m=0):OMk m:=by
 unfold rMk at h
 obtain⟨h1,h⟩:=bif0 (by decide) h
 obtain⟨_,h⟩:=bif0 (by decide) h
 exact⟨by simpa using h1,h⟩
theorem data_ok {d:LDt} (h:rDt d=0):OData d:=by
 unfold rDt at h
 obtain⟨h1,h⟩:=bif0 (by decide) h
 rw[Bool.or_eq_false_iff,Bool.or_eq_false_iff]at h1
 obtain⟨h2,h3⟩:=bifz h
 have h2:=or_zero h2
 refine⟨by simpa using h1.1,h1.2.1,?_,h2 _ (by simp),fun m hm=>mk_ok (each_zero h3 m hm)⟩
 intro e
 have:=h1.2.2
 rw[e]at this
 cases this
theorem fun_ok {f:LFu} (h:rFu f=0) (hg:rgE f.body):OFun f:=by
 unfold rFu at h
 obtain⟨h1,h2⟩:=bifz h
 exact⟨head_ok h1,body_ok h2,hg⟩
theorem sig_ok {f:LFu} (h:rTF f=0):OSig f:=by
 unfold rTF at h
 have h:=or_zero h
 refine⟨head_ok (h _ (by simp)),?_⟩
 have:=h (whenF (!zeroE f.body) 3) (by simp)
 unfold whenF at this
 have:=(bif0 (by decide) this).1
 simpa using this
theorem act_ok {a:LAc} (h:rAc a=0) (hg:rgE a.body):OAct a:=by
 unfold rAc at h
 obtain⟨h1,h⟩:=bif0 (by decide) h
 rw[Bool.or_eq_false_iff]at h1
 obtain⟨h2,h3⟩:=bifz h
 have h2:=or_zero h2
 exact⟨by simpa using h1.1,by simpa using h1.2,h2 _ (by simp),h2 _ (by simp),h2 _ (by simp),body_ok h3,hg⟩
theorem pg_ok {p:LPg} (h:rPg p=0) (hg:rgPg p):OPg p:=by
 unfold rPg at h
 obtain⟨_,h⟩:=bif0 (by decide) h
 obtain⟨h1,h⟩:=bif0 (by decide) h
 rw[Bool.or_eq_false_iff]at h1
 obtain⟨h,e6⟩:=next_zero h
 obtain⟨h,e5⟩:=next_zero h
 obtain⟨h,e4⟩:=next_zero h
 obtain⟨h,e3⟩:=next_zero h
 obtain⟨e1,e2⟩:=next_zero h
 refine⟨by simpa using h1.1,by simpa using h1.2,fun d hd=>?_⟩
 unfold decls at hd
 simp only[List.mem_append,List.mem_map]at hd
 rcases hd with((((⟨u,hu,rfl⟩|⟨u,hu,rfl⟩)|⟨u,hu,rfl⟩)|⟨u,hu,rfl⟩)|⟨u,hu,rfl⟩)|⟨u,hu,rfl⟩
 ·exact use_ok (each_zero e1 u hu)
 ·exact data_ok (each_zero e2 u hu)
 ·have:=each_zero e3 u hu
  unfold rTr at this
  obtain⟨q1,q⟩:=bif0 (by decide) this
  obtain⟨_,q⟩:=bif0 (by decide) q
  exact⟨by simpa using q1,fun f hf=>sig_ok (each_zero q f hf)⟩
 ·have:=each_zero e4 u hu
  unfold rIm at this
  obtain⟨q1,q⟩:=bif0 (by decide) this
  obtain⟨_,q⟩:=bif0 (by decide) q
  rw[Bool.or_eq_false_iff]at q1
  refine⟨by simpa using q1.1,?_,fun f hf=>fun_ok (each_zero q f hf) (hg.1 u hu f hf)⟩
  have:=q1.2
  rw[Bool.and_eq_false_iff]at this
  rcases this with r|r
  ·exact .inl (by simpa using r)
  ·exact .inr (by simpa using r)
 ·exact fun_ok (each_zero e5 u hu) (hg.2.1 u hu)
 ·exact act_ok (each_zero e6 u hu) (hg.2.2 u hu)
theorem parse_text (n:ByteArray) (v:Int) (hn:lowB n=true) (hv:plainF v=true) (ds:List Dc) (hd:∀d∈ds,ODc d) (hl:(modB n v++ds.flatMap dcB).length≤4000):
 ∃q,clPg q=clPg (ds.foldl addD ⟨n,v,[],[],[],[],[],[]⟩)∧parseF (modB n v++ds.flatMap dcB)=(bif rPg q != 0 then (pg0,0,rPg q) else (q,0,0))∧∀pg b,programF (readF (modB n v++ds.flatMap dcB)).1 (modB n v++ds.flatMap dcB).length 0=.ok (pg,b)→pg=q:=by
 have hlx:=(lx_mod n v hn).app (lx_flat dcB dcT ds (fun d hd'=>lx_D d (hd d hd'))) (fun h=>by cases h)
 obtain⟨o,h1,h2⟩:=hlx.run [] 0 [] (fun h=>by cases h)
 rw[List.append_nil,List.nil_append,readGo]at h1
 have hr:readF (modB n v++ds.flatMap dcB)=(o,0,0):=by
  unfold readF
  rw[decide_eq_false (by omega),cond_false,h1]
 have hK:K o 0=modT n v++ds.flatMap dcT:=by unfold K;rw[List.drop_zero];exact h2
 obtain⟨ds',b,h3,h4⟩:=program_back (T:=o) (en:=((modB n v++ds.flatMap dcB).length:Int)) n v hv ds hd hK
 refine⟨ds'.foldl addD ⟨n,v,[],[],[],[],[],[]⟩,by rw[fold_cl,fold_cl,h4],?_,fun pg b hq=>by rw[hr]at hq;simp only at hq;rw[h3]at hq;cases hq;rfl⟩
 unfold parseF
 rw[hr]
 simp only[show((0:Int) != 0)=false from rfl,cond_false]
 rw[h3]
theorem decls_fold (p:LPg):(decls p).foldl addD ⟨p.name,p.ver,[],[],[],[],[],[]⟩=p:=by
 obtain⟨nm,ver,us,ds,ts,is,fs,acs⟩:=p
 unfold decls
 simp only[List.foldl_append]
 have hu:∀(l:List LUse) (p:LPg),(l.map Dc.use).foldl addD p={ p with uses:=p.uses++l }:=by
  intro l
  induction l with
  |nil=>intro p;simp
  |cons x r ih=>intro p;rw[List.map_cons,List.foldl_cons,ih];simp[addD]
 have h2:∀(l:List LDt) (p:LPg),(l.map Dc.data).foldl addD p={ p with datas:=p.datas++l }:=by
  intro l
  induction l with
  |nil=>intro p;simp
  |cons x r ih=>intro p;rw[List.map_cons,List.foldl_cons,ih];simp[addD]
 have h3:∀(l:List LTr) (p:LPg),(l.map Dc.trait).foldl addD p={ p with traits:=p.traits++l }:=by
  intro l
  induction l with
  |nil=>intro p;simp
  |cons x r ih=>intro p;rw[List.map_cons,List.foldl_cons,ih];simp[addD]
 have h4:∀(l:List LIm) (p:LPg),(l.map Dc.impl).foldl addD p={ p with impls:=p.impls++l }:=by
  intro l
  induction l with
  |nil=>intro p;simp
  |cons x r ih=>intro p;rw[List.map_cons,List.foldl_cons,ih];simp[addD]
 have h5:∀(l:List LFu) (p:LPg),(l.map Dc.func).foldl addD p={ p with funcs:=p.funcs++l }:=by
  intro l
  induction l with
  |nil=>intro p;simp
  |cons x r ih=>intro p;rw[List.map_cons,List.foldl_cons,ih];simp[addD]
 have h6:∀(l:List LAc) (p:LPg),(l.map Dc.actor).foldl addD p={ p with actors:=p.actors++l }:=by
  intro l
  induction l with
  |nil=>intro p;simp
  |cons x r ih=>intro p;rw[List.map_cons,List.foldl_cons,ih];simp[addD]
 rw[hu,h2,h3,h4,h5,h6]
 simp
theorem parse_show {p:LPg} (ok:OPg p) (hr:rPg p=0) (hl:(txPg p).length≤4000):∃q,clPg q=clPg p∧rPg q=0∧parseF (txPg p)=(q,0,0)∧∀pg b,programF (readF (txPg p)).1 (txPg p).length 0=.ok (pg,b)→pg=q:=by
 obtain⟨q,h1,h2,h3⟩:=parse_text p.name p.ver ok.nm ok.ver (decls p) ok.ds hl
 rw[decls_fold]at h1
 have hq:rPg q=0:=by rw[←rPg_cl q,h1,rPg_cl,hr]
 rw[hq]at h2
 exact⟨q,h1,hq,h2,h3⟩
end SX
