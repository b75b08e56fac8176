/- Contracts, and the law, for every input. No conditions. -/
import Derived.Test.YtldppkdekklpkaaGreatDoorChecked
import Derived.Test.YtldppkdekklpkaaGreatDoorTKD
import Derived.Test.YtldppkdekklpkaaGreatDoorTS2
set_option linter.all false
section
open Go Go.AM Go.Proofs
set_option maxRecDepth 100000
namespace KK
theorem hmix:Tryz.prog.follows .mixedOrders=true:=by kernel_rfl
inductive Ty where
 |mk (kind:Int) (name:ByteArray) (args:List Ty)
def Ty.kind:Ty→Int|.mk k _ _=>k
def Ty.args:Ty→List Ty|.mk _ _ a=>a
theorem Ty.ind {Q:Ty→Prop} (h:∀k n xs,(∀a∈xs,Q a)→Q (.mk k n xs)) (t:Ty):Q t:=
 Ty.rec (motive_1:=Q) (motive_2:=fun l=>∀a∈l,Q a) (fun k n xs ih=>h k n xs ih) (fun _ hb=>by cases hb) (fun a r h1 h2 b hb=>by
  rcases List.mem_cons.1 hb with hb|hb
  ·rw[hb];exact h1
  ·exact h2 b hb) t
mutual
def eT:Ty→PV
 |.mk k n xs=>.agg [.i .i64 k,.s n,.sl 3 (eTs xs)]
def eTs:List Ty→List PV
 | []=>[]
 |t::r=>eT t::eTs r
end
theorem eTs_map (l:List Ty):eTs l=l.map eT:=by
 induction l with
 |nil=>rfl
 |cons t r ih=>simp[eTs,ih]
mutual
def okT:Ty→Prop
 |.mk _ _ xs=>xs.length*48≤140737488355328∧okTs xs
def okTs:List Ty→Prop
 | []=>True
 |t::r=>okT t∧okTs r
end
theorem okTs_mem:∀{l:List Ty},okTs l→∀t∈l,okT t
 | [],_,t,ht=>by cases ht
 |a::r,h,t,ht=>by
  rcases List.mem_cons.1 ht with rfl|ht
  ·exact h.1
  ·exact okTs_mem h.2 t ht
def idxF (x:ByteArray):List ByteArray→Nat→Int
 | [],_=>-1
 |a::r,k=>bif x==a then (k:Int) else idxF x r (k+1)
def eStr (s:ByteArray):PV:=.s s
theorem index_spec (l:List ByteArray) (x:ByteArray) (hb:l.length<9223372036854775807):APure Tryz.prog 117 [.p (.sl 1 (l.map eStr)),.p (.s x)] (.p (.i .i64 (idxF x l 0))):=by
 refine APure.intro (tyOf_ok Tryz.prog) hmix Tryz.func117 rfl (by rfl) (by kernel_rfl) (by show 2≤_;decide) rfl ?_;(conv=>whnf);refine loopM (tyOf_ok _) hmix (by kernel_rfl) [0,1,6,7,8] [] (fun q vals objs=>∃k:Nat,q+k=l.length∧objs=[]∧vals=[.p (.sl 1 (l.map eStr)),.p (.s x),.p (.sl 1 (l.map eStr)),.p (.i .i64 (l.map eStr).length),.p (.i .i64 k)]∧idxF x l 0=idxF x (l.drop k) k) l.length ⟨[],rfl,rfl,rfl,0,by omega,rfl,rfl,by simp⟩ ?_;rintro q vals objs ⟨k,hk,rfl,rfl,hn⟩;(conv=>whnf);refine asplit ?_ ?_<;>intro h1<;>conv=>whnf
 ·have hk1:k<l.length:=by simpa using h1
  obtain⟨b,hb1⟩:∃b,l[k]?=some b:=⟨l[k],by simp[hk1]⟩
  rw[drop_cons hb1,idxF]at hn;refine aidx hb1 ?_;(conv=>whnf);refine asplit ?_ ?_<;>intro h2<;>conv=>whnf
  ·refine .inl (pi ?_)
   rw[bl_iff]at h2;rw[hn,h2];rfl
  ·refine⟨q-1,by omega,[],rfl,rfl,rfl,k+1,by omega,rfl,by rw[←inc64 (by omega)];rfl,?_⟩
   rw[bl_iff]at h2;rw[hn,h2];rfl
 ·have:l.drop k=[]:=List.drop_eq_nil_of_le (by simpa using h1)
  exact .inl (pi (by rw[hn,this];rfl))
theorem eTs_get {l:List Ty} {k:Nat} {t:Ty} (h:l[k]?=some t):(eTs l)[k]?=some (eT t):=by rw[eTs_map];simp[h]
theorem eTs_len (l:List Ty):(eTs l).length=l.length:=by rw[eTs_map];simp
theorem copy_all (t:Ty) (ht:okT t) (ih:∀a∈t.args,APure Tryz.prog 118 [.p (eT a)] (.p (eT a))):APure Tryz.prog 118 [.p (eT t)] (.p (eT t)):=by
 obtain⟨kd,nm,xs⟩:=t;simp only[Ty.args]at ih;have hlen:=ht.1;refine APure.intro (tyOf_ok Tryz.prog) hmix Tryz.func118 rfl (by rfl) (by kernel_rfl) (by show 1≤_;decide) rfl ?_;(conv=>whnf);refine lp_nil 3 2 rfl ?_
 refine loopS (tyOf_ok _) hmix (by kernel_rfl) xs.length [1,2,3,7,8,9] [1,2] (fun k s=>[.ptr 1 0,.ptr 2 0,.so 3 s,.p (.sl 3 (eTs xs)),.p (.i .i64 (eTs xs).length),.p (.i .i64 (ix k))])
  (fun _ _=>[.cells [.p (.i .i64 kd),.p (.s nm),.p (.sl 3 (eTs xs))],.cells [.p (.i .i64 0),.p (.s ⟨#[]⟩),.nilS]]) (fun k s=>s=(eTs xs).take k) [] ⟨rfl,rfl,rfl,rfl⟩ rfl ?_
 intro k s hk hs;(conv=>whnf);refine asplit ?_ ?_<;>intro h1<;>conv=>whnf
 ·have hk1:=ix_tt h1 (by rw[eTs_len]) hk (by omega)
  obtain⟨b,hb1⟩:∃b,xs[k]?=some b:=⟨xs[k],by simp[hk1]⟩
  refine aidxk (eTs_get hb1) (by omega) ?_;have hc:=ih b (List.mem_of_getElem? hb1);have hts:=take_snoc (eTs_get hb1);obtain⟨bk,bn,bs⟩:=b;(conv=>whnf);refine apc hc ?_;(conv=>whnf);refine aneed (show(s.length+1)*48≤140737488355328 by rw[hs];simp[eTs_len];omega) ?_;(conv=>whnf);refine⟨hk1,_,⟨rfl,rfl,rfl,rfl⟩,?_⟩;rw[hts,hs]
 ·have hk1:=ix_ff h1 (by rw[eTs_len]) hk (by omega)
  have:s=eTs xs:=by rw[hs,hk1,←eTs_len xs,List.take_length]
  subst this;exact .inl rfl
theorem copy_spec (t:Ty):okT t→APure Tryz.prog 118 [.p (eT t)] (.p (eT t)):=
 Ty.ind (Q:=fun t=>okT t→APure Tryz.prog 118 [.p (eT t)] (.p (eT t))) (fun k n xs ih h=>copy_all (.mk k n xs) h fun a ha=>ih a ha (okTs_mem h.2 a ha)) t
def putF (names:List ByteArray) (l:List Ty):Ty→Ty
 |.mk k n xs=>bif k==5&&(decide (idxF n names 0≥0)&&decide (idxF n names 0<l.length)) then (l[(idxF n names 0).toNat]?).getD (.mk k n xs) else .mk k n (putFs names l xs)
 where putFs (names:List ByteArray) (l:List Ty):List Ty→List Ty
 | []=>[]
 |t::r=>putF names l t::putFs names l r
theorem putFs_map (names:List ByteArray) (l xs:List Ty):putF.putFs names l xs=xs.map (putF names l):=by
 induction xs with
 |nil=>rfl
 |cons t r ih=>simp[putF.putFs,ih]
theorem put_all (names:List ByteArray) (l:List Ty) (hn:names.length<9223372036854775807) (hl:l.length<9223372036854775807) (hol:okTs l) (t:Ty) (ht:okT t)
 (ih:∀a∈t.args,APure Tryz.prog 73 [.p (eT a),.p (.sl 1 (names.map eStr)),.p (.sl 3 (eTs l))] (.p (eT (putF names l a)))):
 APure Tryz.prog 73 [.p (eT t),.p (.sl 1 (names.map eStr)),.p (.sl 3 (eTs l))] (.p (eT (putF names l t))):=by
 obtain⟨kd,nm,xs⟩:=t;simp only[Ty.args]at ih;have hlen:=ht.1;refine APure.intro (tyOf_ok Tryz.prog) hmix Tryz.func73 rfl (by rfl) (by kernel_rfl) (by show 3≤_;decide) rfl ?_;(conv=>whnf);refine asplit ?_ ?_<;>intro h1<;>conv=>whnf
 ·refine apc (index_spec names nm hn) ?_
  (conv=>whnf);refine asplit ?_ ?_<;>intro h2<;>conv=>whnf
  ·refine asplit ?_ ?_<;>intro h3<;>conv=>whnf
   ·have h2':idxF nm names 0≥0:=of_decide_eq_true h2
    rw[eTs_len]at h3;have h3':idxF nm names 0<l.length:=of_decide_eq_true h3;obtain⟨b,hb1⟩:∃b,l[(idxF nm names 0).toNat]?=some b:=⟨_,List.getElem?_eq_getElem (by omega)⟩
    have hput:putF names l (.mk kd nm xs)=b:=by rw[putF];simp only[h1,h2,h3,Bool.and_self,cond_true,hb1,Option.getD_some]
    rw[hput];refine⟨eT b,h2',eTs_get hb1,?_⟩;have hcp:=copy_spec b (okTs_mem hol b (List.mem_of_getElem? hb1));obtain⟨bk,bn,bs⟩:=b;(conv=>whnf);refine apc hcp ?_;(conv=>whnf);exact .inl rfl
   ·have hput:putF names l (.mk kd nm xs)=.mk kd nm (xs.map (putF names l)):=by rw[eTs_len]at h3;rw[putF,←putFs_map];simp only[h3,Bool.and_false,cond_false]
    rw[hput];refine lp_nil 8 2 rfl ?_
    refine loopS (tyOf_ok _) hmix (by kernel_rfl) xs.length [1,2,3,6,8,32,33,34] [3,6] (fun k s=>[.p (.sl 1 (names.map eStr)),.p (.sl 3 (eTs l)),.ptr 3 0,.ptr 6 0,.so 3 s,.p (.sl 3 (eTs xs)),.p (.i .i64 (eTs xs).length),.p (.i .i64 (ix k))])
     (fun _ _=>[.cells [.p (.i .i64 kd),.p (.s nm),.p (.sl 3 (eTs xs))],.cells [.p (.i .i64 0),.p (.s ⟨#[]⟩),.nilS]]) (fun k s=>s=eTs ((xs.take k).map (putF names l))) [] ⟨rfl,rfl,rfl,rfl⟩ rfl ?_
    intro k s hk hs;(conv=>whnf);refine asplit ?_ ?_<;>intro g1<;>conv=>whnf
    ·have hk1:=ix_tt g1 (by rw[eTs_len]) hk (by omega)
     obtain⟨b,hb1⟩:∃b,xs[k]?=some b:=⟨xs[k],by simp[hk1]⟩
     refine aidxk (eTs_get hb1) (by omega) ?_;have hc:=ih b (List.mem_of_getElem? hb1);have hts:=take_snoc hb1;generalize hpp:putF names l b=pb' at hc;obtain⟨bk,bn,bs⟩:=b;have hpb:∃pk pn ps,pb'=.mk pk pn ps:=by cases pb';exact⟨_,_,_,rfl⟩
     obtain⟨pk,pn,ps,rfl⟩:=hpb;(conv=>whnf);refine apc hc ?_;(conv=>whnf);refine aneed (show(s.length+1)*48≤140737488355328 by rw[hs,eTs_len];simp;omega) ?_;(conv=>whnf);refine⟨hk1,_,⟨rfl,rfl,rfl,rfl⟩,?_⟩;rw[hts,hs,List.map_append,eTs_map,eTs_map,List.map_append,List.map_cons,hpp];rfl
    ·have hk1:=ix_ff g1 (by rw[eTs_len]) hk (by omega)
     have:s=eTs (xs.map (putF names l)):=by rw[hs,hk1,List.take_length]
     subst this;exact .inl rfl
  ·have hput:putF names l (.mk kd nm xs)=.mk kd nm (xs.map (putF names l)):=by rw[putF,←putFs_map];simp only[h2,Bool.false_and,Bool.and_false,cond_false]
   rw[hput];refine lp_nil 8 2 rfl ?_
   refine loopS (tyOf_ok _) hmix (by kernel_rfl) xs.length [1,2,3,6,8,32,33,34] [3,6] (fun k s=>[.p (.sl 1 (names.map eStr)),.p (.sl 3 (eTs l)),.ptr 3 0,.ptr 6 0,.so 3 s,.p (.sl 3 (eTs xs)),.p (.i .i64 (eTs xs).length),.p (.i .i64 (ix k))])
    (fun _ _=>[.cells [.p (.i .i64 kd),.p (.s nm),.p (.sl 3 (eTs xs))],.cells [.p (.i .i64 0),.p (.s ⟨#[]⟩),.nilS]]) (fun k s=>s=eTs ((xs.take k).map (putF names l))) [] ⟨rfl,rfl,rfl,rfl⟩ rfl ?_
   intro k s hk hs;(conv=>whnf);refine asplit ?_ ?_<;>intro g1<;>conv=>whnf
   ·have hk1:=ix_tt g1 (by rw[eTs_len]) hk (by omega)
    obtain⟨b,hb1⟩:∃b,xs[k]?=some b:=⟨xs[k],by simp[hk1]⟩
    refine aidxk (eTs_get hb1) (by omega) ?_;have hc:=ih b (List.mem_of_getElem? hb1);have hts:=take_snoc hb1;generalize hpp:putF names l b=pb' at hc;obtain⟨bk,bn,bs⟩:=b;have hpb:∃pk pn ps,pb'=.mk pk pn ps:=by cases pb';exact⟨_,_,_,rfl⟩
    obtain⟨pk,pn,ps,rfl⟩:=hpb;(conv=>whnf);refine apc hc ?_;(conv=>whnf);refine aneed (show(s.length+1)*48≤140737488355328 by rw[hs,eTs_len];simp;omega) ?_;(conv=>whnf);refine⟨hk1,_,⟨rfl,rfl,rfl,rfl⟩,?_⟩;rw[hts,hs,List.map_append,eTs_map,eTs_map,List.map_append,List.map_cons,hpp];rfl
   ·have hk1:=ix_ff g1 (by rw[eTs_len]) hk (by omega)
    have:s=eTs (xs.map (putF names l)):=by rw[hs,hk1,List.take_length]
    subst this;exact .inl rfl
 ·have hput:putF names l (.mk kd nm xs)=.mk kd nm (xs.map (putF names l)):=by rw[putF,←putFs_map];simp only[h1,Bool.false_and,cond_false]
  rw[hput];refine lp_nil 8 2 rfl ?_
  refine loopS (tyOf_ok _) hmix (by kernel_rfl) xs.length [1,2,3,6,8,32,33,34] [3,6] (fun k s=>[.p (.sl 1 (names.map eStr)),.p (.sl 3 (eTs l)),.ptr 3 0,.ptr 6 0,.so 3 s,.p (.sl 3 (eTs xs)),.p (.i .i64 (eTs xs).length),.p (.i .i64 (ix k))])
   (fun _ _=>[.cells [.p (.i .i64 kd),.p (.s nm),.p (.sl 3 (eTs xs))],.cells [.p (.i .i64 0),.p (.s ⟨#[]⟩),.nilS]]) (fun k s=>s=eTs ((xs.take k).map (putF names l))) [] ⟨rfl,rfl,rfl,rfl⟩ rfl ?_
  intro k s hk hs;(conv=>whnf);refine asplit ?_ ?_<;>intro g1<;>conv=>whnf
  ·have hk1:=ix_tt g1 (by rw[eTs_len]) hk (by omega)
   obtain⟨b,hb1⟩:∃b,xs[k]?=some b:=⟨xs[k],by simp[hk1]⟩
   refine aidxk (eTs_get hb1) (by omega) ?_;have hc:=ih b (List.mem_of_getElem? hb1);have hts:=take_snoc hb1;generalize hpp:putF names l b=pb' at hc;obtain⟨bk,bn,bs⟩:=b;have hpb:∃pk pn ps,pb'=.mk pk pn ps:=by cases pb';exact⟨_,_,_,rfl⟩
   obtain⟨pk,pn,ps,rfl⟩:=hpb;(conv=>whnf);refine apc hc ?_;(conv=>whnf);refine aneed (show(s.length+1)*48≤140737488355328 by rw[hs,eTs_len];simp;omega) ?_;(conv=>whnf);refine⟨hk1,_,⟨rfl,rfl,rfl,rfl⟩,?_⟩;rw[hts,hs,List.map_append,eTs_map,eTs_map,List.map_append,List.map_cons,hpp];rfl
  ·have hk1:=ix_ff g1 (by rw[eTs_len]) hk (by omega)
   have:s=eTs (xs.map (putF names l)):=by rw[hs,hk1,List.take_length]
   subst this;exact .inl rfl
theorem put_spec (names:List ByteArray) (l:List Ty) (hn:names.length<9223372036854775807) (hl:l.length<9223372036854775807) (hol:okTs l) (t:Ty):okT t→
 APure Tryz.prog 73 [.p (eT t),.p (.sl 1 (names.map eStr)),.p (.sl 3 (eTs l))] (.p (eT (putF names l t))):=
 Ty.ind (Q:=fun t=>okT t→APure Tryz.prog 73 [.p (eT t),.p (.sl 1 (names.map eStr)),.p (.sl 3 (eTs l))] (.p (eT (putF names l t)))) (fun k n xs ih h=>put_all names l hn hl hol (.mk k n xs) h fun a ha=>ih a ha (okTs_mem h.2 a ha)) t
end KK
end
section
open Go Go.AM Go.Proofs
set_option maxRecDepth 100000
namespace KK
def sameF:Ty→Ty→Bool
 |.mk k n xs,.mk k' n' ys=>(k==k')&&((n==n')&&sameF.go xs ys)
 where go:List Ty→List Ty→Bool
 | [],[]=>true
 |x::xs,y::ys=>sameF x y&&sameF.go xs ys
 |_,_=>false
theorem go_len:∀(xs ys:List Ty),xs.length≠ys.length→sameF.go xs ys=false
 | [],[],h=>absurd rfl h
 | [],_::_,_=>by rw[sameF.go]<;>simp
 |_::_,[],_=>by rw[sameF.go]<;>simp
 |x::xs,y::ys,h=>by rw[sameF.go,go_len xs ys (by simpa using h),Bool.and_false]
theorem equalFunc_spec (xs ys:List Ty) (hx:xs.length<9223372036854775807) (f:Nat) (ih:∀a∈xs,∀b∈ys,APure Tryz.prog f [.p (eT a),.p (eT b)] (.p (.b (sameF a b)))):
 APure Tryz.prog 74 [.p (.sl 3 (eTs xs)),.p (.sl 3 (eTs ys)),.fn f [] []] (.p (.b (sameF.go xs ys))):=by
 refine APure.intro (tyOf_ok Tryz.prog) hmix Tryz.func74 rfl (by rfl) (by kernel_rfl) (by show 3≤_;decide) rfl ?_;(conv=>whnf);refine asplit ?_ ?_<;>intro h1<;>conv=>whnf
 ·rw[eTs_len,eTs_len]at h1
  exact .inl (pb (go_len xs ys (by simp at h1;omega)).symm)
 rw[eTs_len,eTs_len]at h1;have hlen:xs.length=ys.length:=by simp at h1;omega
 refine loopS (tyOf_ok _) hmix (by kernel_rfl) xs.length [1,2,15,16,17] [] (fun k _=>[.p (.sl 3 (eTs ys)),.fn f [] [],.p (.sl 3 (eTs xs)),.p (.i .i64 (eTs xs).length),.p (.i .i64 (ix k))])
  (fun _ _=>[]) (fun k _=>sameF.go xs ys=sameF.go (xs.drop k) (ys.drop k)) () ⟨rfl,rfl,rfl,rfl⟩ rfl ?_
 intro k _ hk hs;(conv=>whnf);refine asplit ?_ ?_<;>intro h2<;>conv=>whnf
 ·have hk1:=ix_tt h2 (by rw[eTs_len]) hk hx
  obtain⟨a,ha⟩:∃b,xs[k]?=some b:=⟨xs[k],by simp[hk1]⟩
  obtain⟨b,hb⟩:∃b,ys[k]?=some b:=⟨ys[k],by simp[←hlen,hk1]⟩
  have hc:=ih a (List.mem_of_getElem? ha) b (List.mem_of_getElem? hb);rw[drop_cons ha,drop_cons hb,sameF.go]at hs;generalize sameF a b=r at hc hs;refine aidxk (eTs_get ha) (by omega) ?_;obtain⟨ak,an,ax⟩:=a;(conv=>whnf);refine aidxk (eTs_get hb) (by omega) ?_;obtain⟨bk,bn,bx⟩:=b;(conv=>whnf);refine apc hc ?_;(conv=>whnf);refine asplit ?_ ?_<;>intro h3<;>conv=>whnf
  ·simp only[Bool.not_eq_true']at h3
   exact .inl (pb (by rw[hs,h3];rfl))
  ·simp only[Bool.not_eq_false']at h3
   exact⟨hk1,(),⟨rfl,rfl,rfl,rfl⟩,by rw[hs,h3];rfl⟩
 ·have hk1:=ix_ff h2 (by rw[eTs_len]) hk hx
  have e1:xs.drop k=[]:=List.drop_eq_nil_of_le (by omega);have e2:ys.drop k=[]:=List.drop_eq_nil_of_le (by omega);exact .inl (pb (by rw[hs,e1,e2];rfl))
theorem sameType_of (a b:Ty) (ha:okT a) (ih:∀x∈a.args,∀y,okT y→APure Tryz.prog 72 [.p (eT x),.p (eT y)] (.p (.b (sameF x y)))) (hb:okT b):
 APure Tryz.prog 72 [.p (eT a),.p (eT b)] (.p (.b (sameF a b))):=by
 obtain⟨ak,an,ax⟩:=a;obtain⟨bk,bn,bx⟩:=b;simp only[Ty.args]at ih;have hc:=equalFunc_spec ax bx (by have:=ha.1;omega) 72 (fun x hx y hy=>ih x hx y (okTs_mem hb.2 y hy));rw[sameF];generalize sameF.go ax bx=r at hc;refine APure.intro (tyOf_ok Tryz.prog) hmix Tryz.func72 rfl (by rfl) (by kernel_rfl) (by show 2≤_;decide) rfl ?_;(conv=>whnf);refine asplit ?_ ?_<;>intro h1<;>conv=>whnf
 ·refine asplit ?_ ?_<;>intro h2<;>conv=>whnf
  ·refine apc hc ?_
   (conv=>whnf);rw[bl_iff]at h2;exact .inl (pb (by rw[h1,h2];simp))
  ·rw[bl_iff]at h2
   exact .inl (pb (by rw[h1,h2];rfl))
 ·exact .inl (pb (by rw[h1];rfl))
theorem sameType_spec (a:Ty):okT a→∀b,okT b→APure Tryz.prog 72 [.p (eT a),.p (eT b)] (.p (.b (sameF a b))):=
 Ty.ind (Q:=fun a=>okT a→∀b,okT b→APure Tryz.prog 72 [.p (eT a),.p (eT b)] (.p (.b (sameF a b)))) (fun k n xs ih h b hb=>sameType_of (.mk k n xs) b h (fun x hx y hy=>ih x hx (okTs_mem h.2 x hx) y hy) hb) a
theorem okT_put {ps:List ByteArray} {l:List Ty} (hl:okTs l) (t:Ty):okT t→okT (putF ps l t):=
 Ty.ind (Q:=fun t=>okT t→okT (putF ps l t)) (fun k n xs ih h=>by
  have hx:=h
  have key:okT (.mk k n (xs.map (putF ps l))):=by
   refine⟨by have:=h.1;simpa using this,?_⟩;have h2:=h.2;clear h hx
   induction xs with
   |nil=>exact trivial
   |cons x r ihr=>exact⟨ih x (by simp) h2.1,ihr (fun a ha=>ih a (by simp[ha])) h2.2⟩
  rw[putF,putFs_map]
  cases (k==5&&(decide (idxF n ps 0≥0)&&decide (idxF n ps 0<l.length))) with
  |false=>exact key
  |true=>
   rw[cond_true]
   cases hq:l[(idxF n ps 0).toNat]? with
   |none=>exact hx
   |some b=>exact okTs_mem hl b (List.mem_of_getElem? hq)) t
end KK
end
section
open Go Go.AM Go.Proofs
set_option maxRecDepth 100000
namespace TR
namespace TO
mutual
def cv:Ty→KK.Ty
 |.mk k n xs=>.mk k n (cvs xs)
def cvs:List Ty→List KK.Ty
 | []=>[]
 |t::r=>cv t::cvs r
end
mutual
theorem cv_e:∀t:Ty,KK.eT (cv t)=eT t
 |.mk k n xs=>by rw[cv,KK.eT,eT,cvs_e xs]
theorem cvs_e:∀l:List Ty,KK.eTs (cvs l)=eTs l
 | []=>rfl
 |t::r=>by rw[cvs,KK.eTs,eTs,cv_e t,cvs_e r]
end
theorem cvs_len (l:List Ty):(cvs l).length=l.length:=by rw[←KK.eTs_len,cvs_e,eTs_len]
mutual
theorem okT_cv:∀t:Ty,wT t≤1048576→KK.okT (cv t)
 |.mk k n xs,h=>by
  rw[wT_mk]at h
  have hl:xs.length≤PV.wts (eTs xs):=by
   have:=wts_len (l:=eTs xs) (fun x hx=>by rw[eTs_map]at hx;obtain⟨t,_,rfl⟩:=List.mem_map.1 hx;have:=wT_pos t;unfold wT at this;omega)
   rwa [eTs_len]at this
  rw[cv,KK.okT,cvs_len];exact⟨by omega,okTs_cv xs (by omega)⟩
theorem okTs_cv:∀l:List Ty,PV.wts (eTs l)≤1048576→KK.okTs (cvs l)
 | [],_=>trivial
 |t::r,h=>by
  rw[eTs,PV.wts]at h;exact⟨okT_cv t (by unfold wT;omega),okTs_cv r (by omega)⟩
end
def selfB:ByteArray:=⟨#[115,101,108,102]⟩
def sameP (own a b:Ty):Bool:=KK.sameF (cv a) (KK.putF [selfB] [cv own] (cv b))
def hO:Ty→Heap
 |.mk k n xs=>[(1000000000,.cells [.p (.i .i64 k),.p (.s n),.p (.sl 3 (eTs xs))])]
theorem fits1_spec (own a b:Ty) (ho:wT own≤1048576) (ha:wT a≤1048576) (hb:wT b≤1048576):AMem Tryz.prog 71 [.p (eT a),.p (eT b),.ptr 1000000000 0] (hO own) (.p (.b (sameP own a b))) (hO own):=by
 have hk:KK.okTs [cv own]:=⟨okT_cv own ho,trivial⟩
 have h1:=KK.put_spec [selfB] [cv own] (by simp) (by simp) hk (cv b) (okT_cv b hb);have h2:=KK.sameType_spec (cv a) (okT_cv a ha) (KK.putF [selfB] [cv own] (cv b)) (KK.okT_put hk (cv b) (okT_cv b hb));unfold sameP;generalize hq:KK.sameF (cv a) (KK.putF [selfB] [cv own] (cv b))=q at h2 ⊢;generalize KK.putF [selfB] [cv own] (cv b)=y at h1 h2;rw[cv_e,KK.eTs,KK.eTs,cv_e]at h1;rw[cv_e]at h2;obtain⟨ok,on,ox⟩:=own;obtain⟨ak,an,ax⟩:=a;obtain⟨bk,bn,bx⟩:=b;obtain⟨yk,yn,yx⟩:=y;unfold hO;refine AMem.intro (tyOf_ok Tryz.prog) hmix Tryz.func71 rfl (by rfl) (by kernel_rfl) (by show 3≤_;decide) rfl ?_;(conv=>whnf);refine apc h1 ?_;(conv=>whnf);refine apc h2 ?_;(conv=>whnf)
 first|refine aneed (.inl (by kernel_rfl)) ?_|refine aneed (by kernel_rfl) ?_
 (conv=>whnf);exact⟨.inl rfl,⟨.inl rfl,.inl rfl,.inl rfl,trivial⟩,trivial⟩
end TO
end TR
end
section
open Go Go.AM Go.Proofs
set_option maxRecDepth 100000
namespace TR
namespace TO
def eqTsF (own:Ty):List Ty→List Ty→Bool
 | [],[]=>true
 |x::xs,y::ys=>sameP own x y&&eqTsF own xs ys
 |_,_=>false
theorem eqTsF_len (own:Ty):∀(xs ys:List Ty),xs.length≠ys.length→eqTsF own xs ys=false
 | [],[],h=>absurd rfl h
 | [],_::_,_=>by rw[eqTsF]<;>simp
 |_::_,[],_=>by rw[eqTsF]<;>simp
 |x::xs,y::ys,h=>by rw[eqTsF,eqTsF_len own xs ys (by simpa using h),Bool.and_false]
theorem eqf_spec (own:Ty) (xs ys:List Ty) (ho:wT own≤1048576) (hx:PV.wts (eTs xs)≤1048576) (hy:PV.wts (eTs ys)≤1048576):
 AMem Tryz.prog 74 [.p (.sl 3 (eTs xs)),.p (.sl 3 (eTs ys)),.fn 71 [] [.ptr 1000000000 0]] (hO own) (.p (.b (eqTsF own xs ys))) (hO own):=by
 have hxl:xs.length≤1048576:=by
  have:=wts_len (l:=eTs xs) (fun x hx=>by rw[eTs_map]at hx;obtain⟨t,_,rfl⟩:=List.mem_map.1 hx;have:=wT_pos t;unfold wT at this;omega);rw[eTs_len]at this;omega
 have hc:=fun(a b:Ty) (ha:wT a≤1048576) (hb:wT b≤1048576)=>fits1_spec own a b ho ha hb;obtain⟨ok,on,ox⟩:=own;generalize hR:eqTsF (.mk ok on ox) xs ys=R;unfold hO at hc ⊢;refine AMem.intro (tyOf_ok Tryz.prog) hmix Tryz.func74 rfl (by rfl) (by kernel_rfl) (by show 3≤_;decide) rfl ?_;(conv=>whnf);refine asplit ?_ ?_<;>intro h1<;>conv=>whnf
 ·rw[eTs_len,eTs_len]at h1
  rw[eqTsF_len _ xs ys (by simp at h1;omega)]at hR;subst hR;exact⟨.inl rfl,⟨.inl rfl,.inl rfl,.inl rfl,trivial⟩,trivial⟩
 rw[eTs_len,eTs_len]at h1;have hlen:xs.length=ys.length:=by simp at h1;omega
 refine loopS (tyOf_ok _) hmix (by kernel_rfl) xs.length [1,2,15,16,17] [1000000000] (fun k (_:Unit)=>[.p (.sl 3 (eTs ys)),.fn 71 [] [.ptr 1000000000 0],.p (.sl 3 (eTs xs)),.p (.i .i64 (eTs xs).length),.p (.i .i64 (ix k))]) (fun _ _=>[.cells [.p (.i .i64 ok),.p (.s on),.p (.sl 3 (eTs ox))]]) (fun k _=>eqTsF (.mk ok on ox) (xs.drop k) (ys.drop k)=R) () ⟨rfl,rfl,rfl,rfl⟩ hR ?_;intro k _ hk hs;(conv=>whnf);refine asplit ?_ ?_<;>intro h2<;>conv=>whnf
 ·have hk1:=ix_tt h2 (by rw[eTs_len]) hk (by omega)
  obtain⟨a,ha⟩:∃b,xs[k]?=some b:=⟨xs[k],by simp[hk1]⟩
  obtain⟨b,hb⟩:∃b,ys[k]?=some b:=⟨ys[k],by simp[←hlen,hk1]⟩
  have hcc:=hc a b (by have:=wTs_mem (List.mem_of_getElem? ha);omega) (by have:=wTs_mem (List.mem_of_getElem? hb);omega);rw[drop_cons ha,drop_cons hb,eqTsF]at hs;generalize sameP (.mk ok on ox) a b=r at hcc hs;refine aidxk (eTs_get ha) (by omega) ?_;obtain⟨ak,an,ax⟩:=a;(conv=>whnf);refine aidxk (eTs_get hb) (by omega) ?_;obtain⟨bk,bn,bx⟩:=b;(conv=>whnf);refine amc [1000000000] 500 hcc ?_;(conv=>whnf);refine asplit ?_ ?_<;>intro h3<;>conv=>whnf
  ·rw[Bool.not_eq_true']at h3
   subst h3;rw[Bool.false_and]at hs;subst hs;exact⟨.inl rfl,⟨.inl rfl,.inl rfl,.inl rfl,trivial⟩,trivial⟩
  ·rw[Bool.not_eq_false']at h3
   subst h3;rw[Bool.true_and]at hs;exact⟨hk1,(),⟨rfl,rfl,rfl,rfl⟩,hs⟩
 ·have hk1:=ix_ff h2 (by rw[eTs_len]) hk (by omega)
  have e1:xs.drop k=[]:=List.drop_eq_nil_of_le (by omega);have e2:ys.drop k=[]:=List.drop_eq_nil_of_le (by omega);rw[e1,e2,eqTsF]at hs;subst hs;exact⟨.inl rfl,⟨.inl rfl,.inl rfl,.inl rfl,trivial⟩,trivial⟩
end TO
end TR
end
section
open Go Go.AM Go.Proofs
set_option maxRecDepth 100000
namespace TR
namespace TO
def tailF (own:Ty) (f w:LFu):Int:=
 bif (bif twF (own.args.map Ty.name++w.ps) [] then true else !eqS f.ps (own.args.map Ty.name++w.ps)) then 12 else
 bif (bif !eqTsF own f.ts w.ts then true else !sameP own f.out w.out) then 12 else 0
def varsF:List Ty→Bool
 | []=>true
 |t::r=>bif t.kind != 5 then false else varsF r
def fitsF (m:LIm) (f w:LFu):Int:=match f.ts with
 | []=>12
 |own::r=>bif (bif ((own::r).length:Int) != (w.ts.length:Int) then true else headF own != m.fo) then 12 else
  bif varsF own.args then tailF own f w else 12
theorem bl_ne (a b:ByteArray):(!(a.toList==b.toList))=(a != b):=by rw[bl_iff];rfl
set_option maxHeartbeats 1000000 in
theorem fits_spec (m:LIm) (f w:LFu) (hf:wlFu f≤1048576) (hw:wlFu w≤1048576):APure Tryz.prog 32 [.p (elIm m),.p (elFu f),.p (elFu w)] (.p (.i .i64 (fitsF m f w))):=by
 rw[wlFu_eq]at hf hw;generalize hR:fitsF m f w=R;obtain⟨mt,mf,mfs⟩:=m;obtain⟨fn,fps,fns,fts,fo,fb⟩:=f;obtain⟨wn,wps,wns,wts',wo,wb⟩:=w;simp only at hf hw
 have hpl:∀l:List ByteArray,l.length≤PV.wts (l.map eStr):=fun l=>by
  have:=wts_len (l:=l.map eStr) (fun x hx=>by obtain⟨t,_,rfl⟩:=List.mem_map.1 hx;simp[eStr,PV.wt]);simpa using this
 have htl:∀l:List Ty,l.length≤PV.wts (eTs l):=fun l=>by
  have:=wts_len (l:=eTs l) (fun x hx=>by rw[eTs_map]at hx;obtain⟨t,_,rfl⟩:=List.mem_map.1 hx;have:=wT_pos t;unfold wT at this;omega)
  rwa [eTs_len]at this
 cases fts with
 |nil=>
  rw[fitsF]at hR;subst hR;obtain⟨fok,fon,fox⟩:=fo;obtain⟨bk,bn,bt,bns,bts,bx,bm,bp⟩:=fb;obtain⟨wok,won,wox⟩:=wo;obtain⟨ck,cn,ct,cns,cts,cx,cm,cp⟩:=wb;refine APure.intro (tyOf_ok Tryz.prog) hmix Tryz.func32 rfl (by rfl) (by kernel_rfl) (by show 3≤_;decide) rfl ?_;(conv=>whnf)
  first|refine aneed (.inl (by kernel_rfl)) ?_|refine aneed (by kernel_rfl) ?_
  (conv=>whnf);exact .inl rfl
 |cons own r=>
  have hown:wT own≤1048576:=by have:=wTs_mem (show own∈own::r by simp);omega
  have hhd:=head_spec own
  have hlp:(own.args.map Ty.name++wps).length≤2097152:=by
   obtain⟨ok,on,ox⟩:=own;rw[wT_mk]at hown;have:=htl ox;have:=hpl wps;simp[Ty.args];omega
  have htw:=twice_spec _ hlp;have heq:=equalS_spec fps (own.args.map Ty.name++wps) (by have:=hpl fps;omega);have heqf:=eqf_spec own (own::r) wts' hown (by omega) (by omega);have hone:=fits1_spec own fo wo hown (by omega) (by omega);simp only[fitsF,tailF]at hR;have hrl:=htl (own::r);have hwl:=htl wts';obtain⟨ok,on,ox⟩:=own;obtain⟨fok,fon,fox⟩:=fo;obtain⟨bk,bn,bt,bns,bts,bx,bm,bp⟩:=fb;obtain⟨wok,won,wox⟩:=wo;obtain⟨ck,cn,ct,cns,cts,cx,cm,cp⟩:=wb;unfold hO at heqf hone;refine APure.intro (tyOf_ok Tryz.prog) hmix Tryz.func32 rfl (by rfl) (by kernel_rfl) (by show 3≤_;decide) rfl ?_;(conv=>whnf);refine asplit ?_ ?_<;>intro h1<;>conv=>whnf
  ·replace h1:(((eTs (Ty.mk ok on ox::r)).length:Int) != ((eTs wts').length:Int))=true:=h1
   rw[eTs_len,eTs_len]at h1;rw[h1]at hR;subst hR
   first|refine aneed (.inl (by kernel_rfl)) ?_|refine aneed (by kernel_rfl) ?_
   (conv=>whnf);exact .inl rfl
  ·replace h1:(((eTs (Ty.mk ok on ox::r)).length:Int) != ((eTs wts').length:Int))=false:=h1
   rw[eTs_len,eTs_len]at h1;rw[h1,cond_false]at hR;refine⟨eT (.mk ok on ox),by decide,rfl,?_⟩;(conv=>whnf);refine apc hhd ?_;(conv=>whnf)
   first|refine aneed (.inl (by kernel_rfl)) ?_|refine aneed (by kernel_rfl) ?_
   (conv=>whnf);refine asplit ?_ ?_<;>intro h2<;>conv=>whnf
   ·replace h2:(!((headF (.mk ok on ox)).toList==mf.toList))=true:=h2
    rw[bl_ne]at h2;rw[h2,cond_true]at hR;subst hR;exact .inl rfl
   ·replace h2:(!((headF (.mk ok on ox)).toList==mf.toList))=false:=h2
    rw[bl_ne]at h2;rw[h2,cond_false]at hR;refine⟨eT (.mk ok on ox),by decide,rfl,?_⟩;(conv=>whnf);refine lp_nil 8 0 rfl ?_;have hoxl:ox.length≤1048576:=by rw[wT_mk]at hown;have:=htl ox;omega
    refine loopS (tyOf_ok _) hmix (by kernel_rfl) ox.length [4,5,7,8,40,41,42] [4,5,7] (fun k (_:Unit)=>[.ptr 4 0,.ptr 5 0,.ptr 7 0,.so 1 (((ox.take k).map Ty.name).map eStr),.p (.sl 3 (eTs ox)),.p (.i .i64 (eTs ox).length),.p (.i .i64 (ix k))])
     (fun _ _=>[.cells [.p (.s fn),.p (.sl 1 (fps.map eStr)),.p (.sl 1 (fns.map eStr)),.p (.sl 3 (eTs (.mk ok on ox::r))),.p (.i .i64 fok),.p (.s fon),.p (.sl 3 (eTs fox)),.p (.i .i64 bk),.p (.i .i64 bn),.p (.s bt),.p (.sl 1 (bns.map eStr)),.p (.sl 3 (eTs bts)),.p (.sl 8 (eEs bx)),.p (.sl 12 (eAs bm)),.p (.i .i64 bp)],
       .cells [.p (.s wn),.p (.sl 1 (wps.map eStr)),.p (.sl 1 (wns.map eStr)),.p (.sl 3 (eTs wts')),.p (.i .i64 wok),.p (.s won),.p (.sl 3 (eTs wox)),.p (.i .i64 ck),.p (.i .i64 cn),.p (.s ct),.p (.sl 1 (cns.map eStr)),.p (.sl 3 (eTs cts)),.p (.sl 8 (eEs cx)),.p (.sl 12 (eAs cm)),.p (.i .i64 cp)],
       .cells [.p (.i .i64 ok),.p (.s on),.p (.sl 3 (eTs ox))]])
     (fun k _=>varsF (ox.drop k)=varsF ox) () ⟨rfl,rfl,rfl,rfl⟩ rfl ?_
    intro k _ hk hs;(conv=>whnf);refine asplit ?_ ?_<;>intro h3<;>conv=>whnf
    ·have hk1:=ix_tt h3 (by rw[eTs_len]) hk (by omega)
     obtain⟨b,hb⟩:∃b,ox[k]?=some b:=⟨ox[k],by simp[hk1]⟩
     rw[drop_cons hb,varsF]at hs;have hts:=take_snoc hb;refine aidxk (eTs_get hb) (by omega) ?_;obtain⟨bk',bn',bx'⟩:=b;(conv=>whnf);refine asplit ?_ ?_<;>intro h4<;>conv=>whnf
     ·replace h4:(bk' != 5)=true:=h4
      rw[Ty.kind,h4,cond_true]at hs;simp only[Ty.args,←hs,cond_false]at hR;subst hR;exact .inl rfl
     ·replace h4:(bk' != 5)=false:=h4
      rw[Ty.kind,h4,cond_false]at hs;refine aneed (show((((ox.take k).map Ty.name).map eStr).length+1)*16≤140737488355328 by rw[List.length_map,List.length_map,List.length_take];omega) ?_;(conv=>whnf);refine⟨hk1,(),⟨rfl,?_,rfl,rfl⟩,hs⟩;rw[hts];simp only[List.map_append,List.map_cons,List.map_nil];rfl
    ·have hk1:=ix_ff h3 (by rw[eTs_len]) hk (by omega)
     rw[hk1,List.take_length];rw[hk1,List.drop_length,varsF]at hs;simp only[Ty.args,←hs,cond_true]at hR htw heq hlp;have hwp:=hpl wps;refine aneed (show(((ox.map Ty.name).map eStr).length+(wps.map eStr).length)*16≤140737488355328 by rw[List.length_map,List.length_map,List.length_map];omega) ?_;have eapp:(ox.map Ty.name).map eStr++wps.map eStr=(ox.map Ty.name++wps).map eStr:=by rw[List.map_append]
     rw[eapp];generalize twF (ox.map Ty.name++wps) []=q1 at htw hR;generalize eqS fps (ox.map Ty.name++wps)=q2 at heq hR;generalize (ox.map Ty.name++wps).map eStr=nms at htw heq ⊢;(conv=>whnf);refine apc htw ?_;(conv=>whnf);refine asplit ?_ ?_<;>intro h5<;>conv=>whnf
     ·subst h5
      subst hR;exact .inl rfl
     ·subst h5
      refine apc heq ?_;(conv=>whnf);refine asplit ?_ ?_<;>intro h6<;>conv=>whnf
      ·replace h6:(!q2)=true:=h6
       rw[h6]at hR;subst hR;exact .inl rfl
      ·replace h6:(!q2)=false:=h6
       rw[h6]at hR;simp only[cond_false]at hR;generalize eqTsF (.mk ok on ox) (.mk ok on ox::r) wts'=q3 at heqf hR;generalize sameP (.mk ok on ox) (.mk fok fon fox) (.mk wok won wox)=q4 at hone hR;refine amc [7] 500 heqf ?_;(conv=>whnf);refine asplit ?_ ?_<;>intro h7<;>conv=>whnf
       ·replace h7:(!q3)=true:=h7
        rw[h7]at hR;subst hR;exact .inl rfl
       ·replace h7:(!q3)=false:=h7
        rw[h7]at hR;simp only[cond_false]at hR;refine amc [7] 1500 hone ?_;(conv=>whnf);refine asplit ?_ ?_<;>intro h8<;>conv=>whnf
        ·replace h8:(!q4)=true:=h8
         rw[h8]at hR;subst hR;exact .inl rfl
        ·replace h8:(!q4)=false:=h8
         rw[h8]at hR;subst hR;exact .inl rfl
end TO
end TR
end
section
open Go Go.AM Go.Proofs
set_option maxRecDepth 100000
namespace TR
namespace TO
def headOK (f:LFu):Bool:=match f.ts with
 | []=>false
 |t::_=>bif t.kind != 5 then false else bif t.name != selfB then false else true
def allF:List LFu→Bool
 | []=>true
 |f::r=>bif headOK f then allF r else false
def traitF (t:LTr):Int:=bif allF t.funcs then (bif twF (t.funcs.map LFu.name) [] then 11 else 0) else 12
theorem wlFu_pos (f:LFu):1≤PV.wt (elFu f):=by have:=wlFu_eq f;unfold wlFu at this;omega
theorem funcs_len (l:List LFu):l.length≤PV.wts (l.map elFu):=by
 have:=wts_len (l:=l.map elFu) (fun x hx=>by obtain⟨t,_,rfl⟩:=List.mem_map.1 hx;exact wlFu_pos t);simpa using this
theorem fu_mem {f:LFu} {l:List LFu} (h:f∈l):wlFu f≤PV.wts (l.map elFu):=wts_mem (List.mem_map.2 ⟨f,h,rfl⟩)
theorem trait_spec (t:LTr) (hw:PV.wt (elTr t)≤1048576):APure Tryz.prog 10 [.p (elTr t)] (.p (.i .i64 (traitF t))):=by
 rw[wlTr_eq]at hw;generalize hR:traitF t=R;obtain⟨tn,fs⟩:=t;simp only[traitF]at hR hw;have hl:=funcs_len fs;have htw:=twice_spec (fs.map LFu.name) (by simp;omega);refine APure.intro (tyOf_ok Tryz.prog) hmix Tryz.func10 rfl (by rfl) (by kernel_rfl) (by show 1≤_;decide) rfl ?_;(conv=>whnf);refine lp_nil 3 0 rfl ?_;refine loopS (tyOf_ok _) hmix (by kernel_rfl) fs.length [3,7,8,9] [] (fun k (_:Unit)=>[.so 1 (((fs.take k).map LFu.name).map eStr),.p (.sl 15 (fs.map elFu)),.p (.i .i64 (fs.map elFu).length),.p (.i .i64 (ix k))]) (fun _ _=>[]) (fun k _=>allF (fs.drop k)=allF fs) () ⟨rfl,rfl,rfl,rfl⟩ rfl ?_;intro k _ hk hs;(conv=>whnf);refine asplit ?_ ?_<;>intro h3<;>conv=>whnf
 ·have hk1:=ix_tt h3 (by simp) hk (by omega)
  obtain⟨b,hb⟩:∃b,fs[k]?=some b:=⟨fs[k],by simp[hk1]⟩
  rw[drop_cons hb,allF]at hs;have hts:=take_snoc hb;refine aidxk (x:=elFu b) (by simp[hb]) (by omega) ?_;obtain⟨bn,bps,bns,bts,bo,bb⟩:=b
  cases bts with
  |nil=>
   simp only[headOK,cond_false]at hs;rw[←hs]at hR;subst hR;obtain⟨fok,fon,fox⟩:=bo;obtain⟨bk,bn,bt,bns,bts,bx,bm,bp⟩:=bb;(conv=>whnf);exact .inl rfl
  |cons own r=>
   obtain⟨fok,fon,fox⟩:=bo;obtain⟨bk,bn2,bt,bns2,bts2,bx,bm,bp⟩:=bb;obtain⟨ok,on,ox⟩:=own;simp only[headOK,Ty.kind,Ty.name]at hs;(conv=>whnf);refine⟨eT (.mk ok on ox),by decide,rfl,?_⟩;(conv=>whnf);refine asplit ?_ ?_<;>intro h4<;>conv=>whnf
   ·replace h4:(ok != 5)=true:=h4
    rw[h4]at hs;simp only[cond_true,cond_false]at hs;rw[←hs]at hR;subst hR;exact .inl rfl
   ·replace h4:(ok != 5)=false:=h4
    rw[h4]at hs;refine⟨eT (.mk ok on ox),by decide,rfl,?_⟩;(conv=>whnf);refine asplit ?_ ?_<;>intro h5<;>conv=>whnf
    ·replace h5:(!(on.toList==selfB.toList))=true:=h5
     rw[bl_ne]at h5;rw[h5]at hs;simp only[cond_true,cond_false]at hs;rw[←hs]at hR;subst hR;exact .inl rfl
    ·replace h5:(!(on.toList==selfB.toList))=false:=h5
     rw[bl_ne]at h5;rw[h5]at hs;simp only[cond_true,cond_false]at hs;refine aneed (show((((fs.take k).map LFu.name).map eStr).length+1)*16≤140737488355328 by rw[List.length_map,List.length_map,List.length_take];omega) ?_;(conv=>whnf);refine⟨hk1,(),⟨rfl,?_,rfl,rfl⟩,hs⟩;rw[hts];simp only[List.map_append,List.map_cons,List.map_nil];rfl
 ·have hk1:=ix_ff h3 (by simp) hk (by omega)
  rw[hk1,List.take_length];rw[hk1,List.drop_length,allF]at hs;simp only[←hs,cond_true]at hR;generalize twF (fs.map LFu.name) []=q1 at htw hR;generalize (fs.map LFu.name).map eStr=nms at htw ⊢;(conv=>whnf);refine apc htw ?_;(conv=>whnf);refine asplit ?_ ?_<;>intro h6<;>conv=>whnf
  ·subst h6;subst hR;exact .inl rfl
  ·subst h6;subst hR;exact .inl rfl
end TO
end TR
end
