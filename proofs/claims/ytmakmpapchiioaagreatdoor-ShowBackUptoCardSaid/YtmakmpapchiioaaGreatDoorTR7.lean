/-
  DERIVED. Contracts of functions that the law reaches, and the law, for every input. No conditions.
-/
import Derived.Test.YtmakmpapchiioaaGreatDoorTR1
open Go Go.AM Go.Proofs
set_option maxRecDepth 100000
namespace TR
def eqS:List ByteArray→List ByteArray→Bool
 | [],[]=>true
 |a::r,b::s=>(a==b)&&eqS r s
 |_,_=>false
theorem eqS_iff:∀(l r:List ByteArray),eqS l r=true↔l=r
 | [],[]=>by simp[eqS]
 | [],_::_=>by simp[eqS]
 |_::_,[]=>by simp[eqS]
 |a::r,b::s=>by simp[eqS,eqS_iff r s,beq_bytes]
theorem eqS_len:∀(l r:List ByteArray),l.length≠r.length→eqS l r=false
 | [],[],h=>by simp at h
 | [],_::_,_=>rfl
 |_::_,[],_=>rfl
 |a::r,b::s,h=>by simp at h;simp[eqS,eqS_len r s h]
theorem equalS_spec (l r:List ByteArray) (hl:l.length≤2097152):APure Tryz.prog 40 [.p (.sl 1 (l.map eStr)),.p (.sl 1 (r.map eStr))] (.p (.b (eqS l r))):=by
 refine APure.intro (tyOf_ok Tryz.prog) hmix Tryz.func40 rfl (by rfl) (by kernel_rfl) (by show 2≤_;decide) rfl ?_
 conv=>whnf
 refine asplit ?_ ?_<;>intro h1<;>conv=>whnf
 ·exact .inl (pb (by rw[eqS_len];intro h;simp[h]at h1))
 have hlr:(l.length:Int)=r.length:=by simpa using h1
 have hlr:l.length=r.length:=by omega
 refine loopS (tyOf_ok _) hmix (by kernel_rfl) l.length [0,1,12,13] [] (fun k _=>[.p (.sl 1 (l.map eStr)),.p (.sl 1 (r.map eStr)),.p (.i .i64 (l.map eStr).length),.p (.i .i64 (ix k))]) (fun _ _=>[]) (fun k _=>eqS l r=eqS (l.drop k) (r.drop k)) () ⟨rfl,rfl,rfl,rfl⟩ rfl ?_
 intro k _ hk hs
 conv=>whnf
 refine asplit ?_ ?_<;>intro h2<;>conv=>whnf
 ·have hk1:=ix_tt h2 (by simp) hk (by omega)
  obtain⟨a,ha⟩:∃b,l[k]?=some b:=⟨_,List.getElem?_eq_getElem hk1⟩
  obtain⟨b,hb⟩:∃b,r[k]?=some b:=⟨_,List.getElem?_eq_getElem (by omega)⟩
  rw[drop_cons ha,drop_cons hb,eqS]at hs
  refine aidxk (x:=eStr a) (by simp[ha]) (by omega) ?_
  conv=>whnf
  refine aidxk (x:=eStr b) (by simp[hb]) (by omega) ?_
  conv=>whnf
  refine aneed (by kernel_rfl) ?_
  conv=>whnf
  refine asplit ?_ ?_<;>intro h3<;>conv=>whnf
  ·have h3:(!(a.toList==b.toList))=true:=h3
   rw[bl_iff]at h3
   exact .inl (pb (by rw[hs];cases hq:a==b with|true=>rw[hq]at h3;cases h3|false=>rfl))
  ·have h3:(!(a.toList==b.toList))=false:=h3
   rw[bl_iff]at h3
   refine⟨hk1,(),⟨rfl,rfl,rfl,rfl⟩,?_⟩
   rw[hs];cases hq:a==b with|true=>rfl|false=>rw[hq]at h3;cases h3
 ·have hk1:=ix_ff h2 (by simp) hk (by omega)
  exact .inl (pb (by rw[hs,hk1,List.drop_length,hlr,List.drop_length];rfl))
end TR
open Go Go.AM Go.Proofs
set_option maxRecDepth 100000
namespace TR
theorem equalTy_spec (f:Nat) (l r:List Ty) (hl:l.length≤1048576) (hlr:l.length=r.length) (h:∀(k:Nat) (x y:Ty),l[k]?=some x→r[k]?=some y→APure Tryz.prog f [.p (eT x),.p (eT y)] (.p (.b true))):APure Tryz.prog 37 [.p (.sl 3 (eTs l)),.p (.sl 3 (eTs r)),.fn f [] []] (.p (.b true)):=by
 refine APure.intro (tyOf_ok Tryz.prog) hmix Tryz.func37 rfl (by rfl) (by kernel_rfl) (by show 3≤_;decide) rfl ?_
 conv=>whnf
 refine asf (by rw[eTs_len,eTs_len,hlr];simp) ?_
 conv=>whnf
 refine loopS (tyOf_ok _) hmix (by kernel_rfl) l.length [1,2,15,16,17] [] (fun k (_:Unit)=>[.p (.sl 3 (eTs r)),.fn f [] [],.p (.sl 3 (eTs l)),.p (.i .i64 (eTs l).length),.p (.i .i64 (ix k))]) (fun _ _=>[]) (fun k _=>True) () ⟨rfl,rfl,rfl,rfl⟩ trivial ?_
 intro k _ hk _
 conv=>whnf
 refine asplit ?_ ?_<;>intro h1<;>conv=>whnf
 ·have hk1:=ix_tt h1 (by rw[eTs_len]) hk (by omega)
  obtain⟨b,hb1⟩:∃b,l[k]?=some b:=⟨_,List.getElem?_eq_getElem hk1⟩
  obtain⟨c,hc1⟩:∃b,r[k]?=some b:=⟨_,List.getElem?_eq_getElem (by omega)⟩
  refine aidxk (eTs_get hb1) (by omega) ?_
  have hc:=h k b c hb1 hc1
  have hcg:=eTs_get hc1
  obtain⟨b1,b2,b3⟩:=b
  conv=>whnf
  refine aidxk hcg (by omega) ?_
  obtain⟨c1,c2,c3⟩:=c
  conv=>whnf
  refine apc hc ?_
  conv=>whnf
  exact⟨hk1,(),⟨rfl,rfl,rfl,rfl⟩,trivial⟩
 ·exact .inl rfl
theorem equalPt_spec (f:Nat) (l r:List Pt) (hl:l.length≤1048576) (hlr:l.length=r.length) (h:∀(k:Nat) (x y:Pt),l[k]?=some x→r[k]?=some y→APure Tryz.prog f [.p (eP x),.p (eP y)] (.p (.b true))):APure Tryz.prog 136 [.p (.sl 4 (ePs l)),.p (.sl 4 (ePs r)),.fn f [] []] (.p (.b true)):=by
 refine APure.intro (tyOf_ok Tryz.prog) hmix Tryz.func136 rfl (by rfl) (by kernel_rfl) (by show 3≤_;decide) rfl ?_
 conv=>whnf
 refine asf (by rw[ePs_len,ePs_len,hlr];simp) ?_
 conv=>whnf
 refine loopS (tyOf_ok _) hmix (by kernel_rfl) l.length [1,2,15,16,17] [] (fun k (_:Unit)=>[.p (.sl 4 (ePs r)),.fn f [] [],.p (.sl 4 (ePs l)),.p (.i .i64 (ePs l).length),.p (.i .i64 (ix k))]) (fun _ _=>[]) (fun k _=>True) () ⟨rfl,rfl,rfl,rfl⟩ trivial ?_
 intro k _ hk _
 conv=>whnf
 refine asplit ?_ ?_<;>intro h1<;>conv=>whnf
 ·have hk1:=ix_tt h1 (by rw[ePs_len]) hk (by omega)
  obtain⟨b,hb1⟩:∃b,l[k]?=some b:=⟨_,List.getElem?_eq_getElem hk1⟩
  obtain⟨c,hc1⟩:∃b,r[k]?=some b:=⟨_,List.getElem?_eq_getElem (by omega)⟩
  refine aidxk (ePs_get hb1) (by omega) ?_
  have hc:=h k b c hb1 hc1
  have hcg:=ePs_get hc1
  obtain⟨b1,b2,b3,b4⟩:=b
  conv=>whnf
  refine aidxk hcg (by omega) ?_
  obtain⟨c1,c2,c3,c4⟩:=c
  conv=>whnf
  refine apc hc ?_
  conv=>whnf
  exact⟨hk1,(),⟨rfl,rfl,rfl,rfl⟩,trivial⟩
 ·exact .inl rfl
theorem equalEx_spec (f:Nat) (l r:List Ex) (hl:l.length≤1048576) (hlr:l.length=r.length) (h:∀(k:Nat) (x y:Ex),l[k]?=some x→r[k]?=some y→APure Tryz.prog f [.p (eE x),.p (eE y)] (.p (.b true))):APure Tryz.prog 96 [.p (.sl 8 (eEs l)),.p (.sl 8 (eEs r)),.fn f [] []] (.p (.b true)):=by
 refine APure.intro (tyOf_ok Tryz.prog) hmix Tryz.func96 rfl (by rfl) (by kernel_rfl) (by show 3≤_;decide) rfl ?_
 conv=>whnf
 refine asf (by rw[eEs_len,eEs_len,hlr];simp) ?_
 conv=>whnf
 refine loopS (tyOf_ok _) hmix (by kernel_rfl) l.length [1,2,15,16,17] [] (fun k (_:Unit)=>[.p (.sl 8 (eEs r)),.fn f [] [],.p (.sl 8 (eEs l)),.p (.i .i64 (eEs l).length),.p (.i .i64 (ix k))]) (fun _ _=>[]) (fun k _=>True) () ⟨rfl,rfl,rfl,rfl⟩ trivial ?_
 intro k _ hk _
 conv=>whnf
 refine asplit ?_ ?_<;>intro h1<;>conv=>whnf
 ·have hk1:=ix_tt h1 (by rw[eEs_len]) hk (by omega)
  obtain⟨b,hb1⟩:∃b,l[k]?=some b:=⟨_,List.getElem?_eq_getElem hk1⟩
  obtain⟨c,hc1⟩:∃b,r[k]?=some b:=⟨_,List.getElem?_eq_getElem (by omega)⟩
  refine aidxk (eEs_get hb1) (by omega) ?_
  have hc:=h k b c hb1 hc1
  have hcg:=eEs_get hc1
  obtain⟨b1,b2,b3,b4,b5,b6,b7,b8⟩:=b
  conv=>whnf
  refine aidxk hcg (by omega) ?_
  obtain⟨c1,c2,c3,c4,c5,c6,c7,c8⟩:=c
  conv=>whnf
  refine apc hc ?_
  conv=>whnf
  exact⟨hk1,(),⟨rfl,rfl,rfl,rfl⟩,trivial⟩
 ·exact .inl rfl
theorem equalArm_spec (f:Nat) (l r:List Arm) (hl:l.length≤1048576) (hlr:l.length=r.length) (h:∀(k:Nat) (x y:Arm),l[k]?=some x→r[k]?=some y→APure Tryz.prog f [.p (eA x),.p (eA y)] (.p (.b true))):APure Tryz.prog 97 [.p (.sl 12 (eAs l)),.p (.sl 12 (eAs r)),.fn f [] []] (.p (.b true)):=by
 refine APure.intro (tyOf_ok Tryz.prog) hmix Tryz.func97 rfl (by rfl) (by kernel_rfl) (by show 3≤_;decide) rfl ?_
 conv=>whnf
 refine asf (by rw[eAs_len,eAs_len,hlr];simp) ?_
 conv=>whnf
 refine loopS (tyOf_ok _) hmix (by kernel_rfl) l.length [1,2,15,16,17] [] (fun k (_:Unit)=>[.p (.sl 12 (eAs r)),.fn f [] [],.p (.sl 12 (eAs l)),.p (.i .i64 (eAs l).length),.p (.i .i64 (ix k))]) (fun _ _=>[]) (fun k _=>True) () ⟨rfl,rfl,rfl,rfl⟩ trivial ?_
 intro k _ hk _
 conv=>whnf
 refine asplit ?_ ?_<;>intro h1<;>conv=>whnf
 ·have hk1:=ix_tt h1 (by rw[eAs_len]) hk (by omega)
  obtain⟨b,hb1⟩:∃b,l[k]?=some b:=⟨_,List.getElem?_eq_getElem hk1⟩
  obtain⟨c,hc1⟩:∃b,r[k]?=some b:=⟨_,List.getElem?_eq_getElem (by omega)⟩
  refine aidxk (eAs_get hb1) (by omega) ?_
  have hc:=h k b c hb1 hc1
  have hcg:=eAs_get hc1
  obtain⟨⟨b1,b2,b3,b4⟩,⟨b5,b6,b7,b8,b9,b10,b11,b12⟩⟩:=b
  conv=>whnf
  refine aidxk hcg (by omega) ?_
  obtain⟨⟨c1,c2,c3,c4⟩,⟨c5,c6,c7,c8,c9,c10,c11,c12⟩⟩:=c
  conv=>whnf
  refine apc hc ?_
  conv=>whnf
  exact⟨hk1,(),⟨rfl,rfl,rfl,rfl⟩,trivial⟩
 ·exact .inl rfl
mutual
def clearF:Ex→Ex
 |.mk k n t ns ts xs ms _=>.mk k n t ns ts (clearFs xs) (clearFa ms) 0
def clearA:Arm→Arm
 |.mk p e=>.mk p (clearF e)
def clearFs:List Ex→List Ex
 | []=>[]
 |e::r=>clearF e::clearFs r
def clearFa:List Arm→List Arm
 | []=>[]
 |a::r=>clearA a::clearFa r
end
theorem clearFs_map (l:List Ex):clearFs l=l.map clearF:=by
 induction l with
 |nil=>rfl
 |cons t r ih=>simp[clearFs,ih]
theorem clearFa_map (l:List Arm):clearFa l=l.map clearA:=by
 induction l with
 |nil=>rfl
 |cons t r ih=>simp[clearFa,ih]
end TR
open Go Go.AM Go.Proofs
set_option maxRecDepth 100000
namespace TR
theorem eqS_refl (l:List ByteArray):eqS l l=true:=(eqS_iff l l).2 rfl
theorem beqI (a:Int):(a==a)=true:=by simp
theorem beqB (a:ByteArray):(a.toList==a.toList)=true:=by simp
theorem sameType_spec (t:Ty):wT t≤1048576→APure Tryz.prog 38 [.p (eT t),.p (eT t)] (.p (.b true)):=by
 induction t using Ty.ind with
 |h k0 n0 as0 ih=>
 intro hw
 have h1:=wT_mk k0 n0 as0
 have h2:=wTs_len as0
 have hm:=equalTy_spec 38 as0 as0 (by omega) rfl (fun k x y hx hy=>by rw[hx]at hy;cases hy;exact ih x (List.mem_of_getElem? hx) (by have:=wTs_mem (List.mem_of_getElem? hx);omega))
 refine APure.intro (tyOf_ok Tryz.prog) hmix Tryz.func38 rfl (by rfl) (by kernel_rfl) (by show 2≤_;decide) rfl ?_
 conv=>whnf
 refine ast (beqI _) ?_
 conv=>whnf
 refine ast (beqB _) ?_
 conv=>whnf
 refine apc hm ?_
 conv=>whnf
 exact .inl rfl
theorem samePat_spec (t:Pt):wP t≤1048576→APure Tryz.prog 95 [.p (eP t),.p (eP t)] (.p (.b true)):=by
 induction t using Pt.ind with
 |h k0 n0 t0 as0 ih=>
 intro hw
 have h1:=wP_mk k0 n0 t0 as0
 have h2:=wPs_len as0
 have hm:=equalPt_spec 95 as0 as0 (by omega) rfl (fun k x y hx hy=>by rw[hx]at hy;cases hy;exact ih x (List.mem_of_getElem? hx) (by have:=wPs_mem (List.mem_of_getElem? hx);omega))
 refine APure.intro (tyOf_ok Tryz.prog) hmix Tryz.func95 rfl (by rfl) (by kernel_rfl) (by show 2≤_;decide) rfl ?_
 conv=>whnf
 refine ast (beqI _) ?_
 conv=>whnf
 refine ast (beqI _) ?_
 conv=>whnf
 refine ast (beqB _) ?_
 conv=>whnf
 refine apc hm ?_
 conv=>whnf
 exact .inl rfl
theorem sameArm_spec (a b:Arm) (h1:wP a.pat≤1048576) (hp:a.pat=b.pat) (h2:APure Tryz.prog 47 [.p (eE a.body),.p (eE b.body)] (.p (.b true))):APure Tryz.prog 94 [.p (eA a),.p (eA b)] (.p (.b true)):=by
 obtain⟨p,e⟩:=a
 obtain⟨q,f⟩:=b
 simp only[Arm.pat,Arm.body]at h1 h2 hp
 subst hp
 have hp:=samePat_spec p h1
 obtain⟨p1,p2,p3,p4⟩:=p
 obtain⟨b1,b2,b3,b4,b5,b6,b7,b8⟩:=e
 obtain⟨c1,c2,c3,c4,c5,c6,c7,c8⟩:=f
 refine APure.intro (tyOf_ok Tryz.prog) hmix Tryz.func94 rfl (by rfl) (by kernel_rfl) (by show 2≤_;decide) rfl ?_
 conv=>whnf
 refine apc hp ?_
 conv=>whnf
 refine apc h2 ?_
 conv=>whnf
 exact .inl rfl
theorem clearA_pat (a b:Arm) (h:clearA a=clearA b):a.pat=b.pat∧clearF a.body=clearF b.body:=by
 obtain⟨p,e⟩:=a
 obtain⟨q,f⟩:=b
 simp only[clearA,Arm.mk.injEq]at h
 exact h
theorem map_eq_len {α β:Type} {f:α→β} {l r:List α} (h:l.map f=r.map f):l.length=r.length:=by
 have:=congrArg List.length h;simpa using this
theorem map_eq_get {α β:Type} {f:α→β} {l r:List α} (h:l.map f=r.map f) {k:Nat} {x y:α} (hx:l[k]?=some x) (hy:r[k]?=some y):f x=f y:=by
 have:=congrArg (fun l=>l[k]?) h
 simp only[List.getElem?_map,hx,hy,Option.map_some,Option.some.injEq]at this
 exact this
theorem sameExpr_spec (a:Ex):∀b:Ex,wE a≤1048576→clearF a=clearF b→APure Tryz.prog 47 [.p (eE a),.p (eE b)] (.p (.b true)):=by
 induction a using Ex.ind with
 |h k0 n0 t0 ns0 ts0 as0 ms0 p0 ih1 ih2=>
 intro b hw hb
 obtain⟨k1,n1,t1,ns1,ts1,as1,ms1,p1⟩:=b
 simp only[clearF,Ex.mk.injEq,clearFs_map,clearFa_map]at hb
 obtain⟨rfl,rfl,rfl,rfl,rfl,h5,h6,_⟩:=hb
 have hl:=wE_lens k0 n0 t0 ns0 ts0 as0 ms0 p0
 have hwm:=wE_mk k0 n0 t0 ns0 ts0 as0 ms0 p0
 have g1:=equalS_spec ns0 ns0 (by omega)
 rw[eqS_refl]at g1
 have g2:=equalTy_spec 38 ts0 ts0 (by omega) rfl (fun k x y hx hy=>by rw[hx]at hy;cases hy;exact sameType_spec x (by have:=wTs_mem (List.mem_of_getElem? hx);omega))
 have g3:=equalEx_spec 47 as0 as1 (by omega) (map_eq_len h5) (fun k x y hx hy=>ih1 x (List.mem_of_getElem? hx) y (by have:=wEs_mem (List.mem_of_getElem? hx);omega) (map_eq_get h5 hx hy))
 have g4:=equalArm_spec 94 ms0 ms1 (by omega) (map_eq_len h6) (fun k x y hx hy=>by
  have hwx:=wAs_mem (List.mem_of_getElem? hx)
  have hwb:=wA_body x
  obtain⟨q1,q2⟩:=clearA_pat x y (map_eq_get h6 hx hy)
  exact sameArm_spec x y (by omega) q1 (ih2 x (List.mem_of_getElem? hx) y.body (by omega) q2))
 refine APure.intro (tyOf_ok Tryz.prog) hmix Tryz.func47 rfl (by rfl) (by kernel_rfl) (by show 2≤_;decide) rfl ?_
 conv=>whnf
 refine ast (beqI _) ?_
 conv=>whnf
 refine ast (beqI _) ?_
 conv=>whnf
 refine ast (beqB _) ?_
 conv=>whnf
 refine apc g1 ?_
 conv=>whnf
 refine apc g2 ?_
 conv=>whnf
 refine apc g3 ?_
 conv=>whnf
 refine apc g4 ?_
 conv=>whnf
 exact .inl rfl
end TR
