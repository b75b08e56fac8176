/- Contracts, and the law, for every input. No conditions. -/
import Derived.Test.YtldppkdekklpkaaGreatDoorUN2
import Derived.Test.YtldppkdekklpkaaGreatDoorTKD
import Derived.Test.YtldppkdekklpkaaGreatDoorTS2
import Derived.Shelf.Spec.SlicesGrow
set_option linter.all false
section
open Go Go.AM Go.Proofs
set_option maxRecDepth 100000
namespace KK
def sub1 (n:ByteArray) (b:Ty):Ty→Ty
 |.mk k m xs=>bif k==5&&m==n then b else .mk k m (sub1s n b xs)
 where sub1s (n:ByteArray) (b:Ty):List Ty→List Ty
 | []=>[]
 |t::r=>sub1 n b t::sub1s n b r
theorem sub1s_map (n:ByteArray) (b:Ty) (l:List Ty):sub1.sub1s n b l=l.map (sub1 n b):=by
 induction l with
 |nil=>rfl
 |cons t r ih=>simp[sub1.sub1s,ih]
mutual
def has1 (n:ByteArray):Ty→Bool
 |.mk k m xs=>bif k==5&&m==n then true else has1s n xs
def has1s (n:ByteArray):List Ty→Bool
 | []=>false
 |t::r=>has1 n t||has1s n r
end
mutual
theorem sub1_none (n:ByteArray) (b:Ty):∀(t:Ty),has1 n t=false→sub1 n b t=t
 |.mk k m xs,h=>by
  rw[has1]at h;rw[sub1]
  cases hq:(k==5&&m==n) with
  |true=>rw[hq]at h;cases h
  |false=>
   rw[hq]at h;rw[cond_false,sub1s_map,sub1s_none n b xs h]
theorem sub1s_none (n:ByteArray) (b:Ty):∀(l:List Ty),has1s n l=false→l.map (sub1 n b)=l
 | [],_=>rfl
 |t::r,h=>by
  rw[has1s,Bool.or_eq_false_iff]at h;rw[List.map_cons,sub1_none n b t h.1,sub1s_none n b r h.2]
end
theorem has1s_app (n:ByteArray):∀(l r:List Ty),has1s n (l++r)=(has1s n l||has1s n r)
 | [],r=>rfl
 |t::l,r=>by rw[List.cons_append,has1s,has1s,has1s_app n l r,Bool.or_assoc]
noncomputable abbrev tyR:Nat→Option TI:=hint (tyOf Tryz.prog) 30 [42,45]
theorem tyR_ok:TyOK Tryz.prog tyR:=(tyOf_ok Tryz.prog).hint 30 [42,45]
def RepS (n:ByteArray) (b t:Ty):Prop:=APure Tryz.prog 258 [.p (eT t),.p (.s n),.p (eT b)] (.tup [.p (eT (sub1 n b t)),.p (.b (has1 n t))])
theorem eTs_set (l:List Ty) (k:Nat) (t:Ty):eTs (l.set k t)=(eTs l).set k (eT t):=by rw[eTs_map,eTs_map,List.map_set]
theorem part_set (f:Ty→Ty) (xs:List Ty) (k:Nat) (x:Ty) (hx:xs[k]?=some x):((xs.take k).map f++xs.drop k).set k (f x)=(xs.take (k+1)).map f++xs.drop (k+1):=by
 have hk:=(List.getElem?_eq_some_iff.1 hx).1;rw[drop_cons hx,take_snoc hx,List.set_append];simp[Nat.min_eq_left (Nat.le_of_lt hk)]
theorem part_same (f:Ty→Ty) (xs:List Ty) (k:Nat) (x:Ty) (hx:xs[k]?=some x) (hf:f x=x):(xs.take k).map f++xs.drop k=(xs.take (k+1)).map f++xs.drop (k+1):=by
 rw[drop_cons hx,take_snoc hx,List.map_append,List.map_cons,hf];simp
theorem rep_all (n:ByteArray) (b t:Ty) (ht:okT t) (ih:∀a∈t.args,RepS n b a):RepS n b t:=by
 obtain⟨k,m,xs⟩:=t;obtain⟨bk,bn,bx⟩:=b;simp only[Ty.args]at ih;have hlen:=ht.1;unfold RepS;rw[sub1,has1,sub1s_map];refine APure.intro tyR_ok hmix Tryz.func258 rfl (by rfl) (by kernel_rfl) (by show 3≤_;decide) rfl ?_;(conv=>whnf);refine asplit ?_ ?_<;>intro h1<;>conv=>whnf
 · --k=5
  replace h1:(k==5)=true:=h1;rw[h1];refine asplit ?_ ?_<;>intro h2<;>conv=>whnf
  ·rw[bl_iff]at h2
   rw[h2];exact .inl rfl
  ·rw[bl_iff]at h2
   rw[h2]
   refine loop2 tyR_ok hmix (by kernel_rfl) xs.length [1,3,5,6,7,8,24,25,26] [3,5,6] (fun j (_:Unit)=>[.p (.s n),.ptr 3 0,.ptr 5 0,.ptr 6 0,.p (.b false),.p (.b false),.p (.sl 3 (eTs xs)),.p (.i .i64 (eTs xs).length),.p (.i .i64 (ix j))])
    (fun _ _=>[.cells [.p (.i .i64 k),.p (.s m),.p (.sl 3 (eTs xs))],.cells [.p (.i .i64 bk),.p (.s bn),.p (.sl 3 (eTs bx))],.cells [.p (.i .i64 0),.p (.s ⟨#[]⟩),.nilS]]) (fun j _=>has1s n (xs.take j)=false)
    [1,3,5,6,7,8,24,25,26] [3,5,6,45] (fun j (_:List PV)=>[.p (.s n),.ptr 3 0,.ptr 5 0,.ptr 6 0,.p (.b false),.p (.b true),.p (.sl 3 (eTs xs)),.p (.i .i64 (eTs xs).length),.p (.i .i64 (ix j))])
    (fun j s=>[.cells [.p (.i .i64 k),.p (.s m),.al true 45 3 (0+(eTs xs).length)],.cells [.p (.i .i64 bk),.p (.s bn),.p (.sl 3 (eTs bx))],.cells [.p (.i .i64 0),.p (.s ⟨#[]⟩),.nilS],.gr true 3 s]) (fun j s=>has1s n (xs.take j)=true∧s=eTs ((xs.take j).map (sub1 n (.mk bk bn bx))++xs.drop j))
    () ⟨rfl,rfl,rfl,rfl⟩ rfl ?_ ?_
   ·rintro j _ hj hs
    (conv=>whnf);refine asplit ?_ ?_<;>intro h3<;>conv=>whnf
    ·have hj1:=ix_tt h3 (by rw[eTs_len]) hj (by omega)
     obtain⟨a,ha⟩:∃b,xs[j]?=some b:=⟨_,List.getElem?_eq_getElem hj1⟩
     have hc:=ih a (List.mem_of_getElem? ha);unfold RepS at hc;have hts:=take_snoc ha;have hh:has1s n (xs.take (j+1))=has1 n a:=by rw[hts,has1s_app,hs];simp[has1s]
     have hset:=part_set (sub1 n (.mk bk bn bx)) xs j a ha;have hx0:(xs.take j).map (sub1 n (.mk bk bn bx))++xs.drop j=xs:=by rw[sub1s_none n _ _ hs,List.take_append_drop]
     rw[hx0]at hset;refine aidxk (eTs_get ha) (by omega) ?_;generalize has1 n a=q at hc hh;generalize sub1 n (.mk bk bn bx) a=y at hc hset;obtain⟨ak,an,ax⟩:=a;obtain⟨yk,yn,yx⟩:=y;(conv=>whnf);refine apc hc ?_;(conv=>whnf);refine asplit ?_ ?_<;>intro h4<;>conv=>whnf
     ·obtain rfl:q=false:=by simpa using h4
      exact⟨hj1,.inl ⟨(),⟨rfl,rfl,rfl,rfl⟩,hh⟩⟩
     ·obtain rfl:q=true:=by simpa using h4
      refine aneed (show 0=0∧(0+(eTs xs).length)*48≤140737488355328 by rw[eTs_len];omega) ?_;(conv=>whnf);refine aneed (show 0≤ix j∧(ix j).toNat<0+(eTs xs).length by rw[eTs_len,ix_eq (by omega)];omega) ?_;(conv=>whnf);refine aneed (show(ix j).toNat<([]++eTs xs).length by rw[List.nil_append,eTs_len,ix_eq (by omega)];omega) ?_;(conv=>whnf);refine⟨hj1,.inr ⟨_,⟨rfl,rfl,rfl,rfl⟩,hh,?_⟩⟩;show([]++eTs xs).set (ix j).toNat (eT (.mk yk yn yx))=_;rw[←hset,eTs_set,List.nil_append,ix_eq (by omega)];simp
    ·have hj1:=ix_ff h3 (by rw[eTs_len]) hj (by omega)
     subst hj1;rw[List.take_length]at hs;rw[hs,sub1s_none n _ _ hs];exact .inl rfl
   ·rintro j s hj ⟨hs,rfl⟩
    have hsl:(eTs ((xs.take j).map (sub1 n (.mk bk bn bx))++xs.drop j)).length=xs.length:=by rw[eTs_len];simp;omega
    (conv=>whnf);refine asplit ?_ ?_<;>intro h3<;>conv=>whnf
    ·have hj1:=ix_tt h3 (by rw[eTs_len]) hj (by omega)
     obtain⟨a,ha⟩:∃b,xs[j]?=some b:=⟨_,List.getElem?_eq_getElem hj1⟩
     have hc:=ih a (List.mem_of_getElem? ha);unfold RepS at hc;have hts:=take_snoc ha;have hh:has1s n (xs.take (j+1))=true:=by rw[hts,has1s_app,hs];rfl
     have hset:=part_set (sub1 n (.mk bk bn bx)) xs j a ha;have hsame:=part_same (sub1 n (.mk bk bn bx)) xs j a ha;have hn1:=sub1_none n (.mk bk bn bx) a;refine aidxk (eTs_get ha) (by omega) ?_;generalize has1 n a=q at hc hn1;generalize sub1 n (.mk bk bn bx) a=y at hc hset hsame hn1;generalize (xs.take j).map (sub1 n (.mk bk bn bx))++xs.drop j=ws at *;obtain⟨ak,an,ax⟩:=a;obtain⟨yk,yn,yx⟩:=y;(conv=>whnf);refine apc hc ?_;(conv=>whnf);refine asplit ?_ ?_<;>intro h4<;>conv=>whnf
     ·obtain rfl:q=false:=by simpa using h4
      exact⟨hj1,_,⟨rfl,rfl,rfl,rfl⟩,hh,by rw[hsame (hn1 rfl)]⟩
     ·refine aneed (show 0≤ix j∧(ix j).toNat<0+(eTs xs).length by rw[eTs_len,ix_eq (by omega)];omega) ?_
      (conv=>whnf);refine aneed (show(ix j).toNat<(eTs ws).length by rw[hsl,ix_eq (by omega)];omega) ?_;(conv=>whnf);refine⟨hj1,_,⟨rfl,rfl,rfl,rfl⟩,hh,?_⟩;show(eTs ws).set (ix j).toNat (eT (.mk yk yn yx))=_;rw[←hset,eTs_set,ix_eq (by omega)];simp
    ·have hj1:=ix_ff h3 (by rw[eTs_len]) hj (by omega)
     subst hj1;rw[List.take_length]at hs ⊢;rw[hs,List.drop_length,List.append_nil];refine .inr (.inr ⟨rfl,?_⟩);exact⟨by rw[eTs_len,eTs_len,List.length_map];omega,trivial⟩
 ·replace h1:(k==5)=false:=h1
  rw[h1]
  refine loop2 tyR_ok hmix (by kernel_rfl) xs.length [1,3,5,6,7,8,24,25,26] [3,5,6] (fun j (_:Unit)=>[.p (.s n),.ptr 3 0,.ptr 5 0,.ptr 6 0,.p (.b false),.p (.b false),.p (.sl 3 (eTs xs)),.p (.i .i64 (eTs xs).length),.p (.i .i64 (ix j))])
   (fun _ _=>[.cells [.p (.i .i64 k),.p (.s m),.p (.sl 3 (eTs xs))],.cells [.p (.i .i64 bk),.p (.s bn),.p (.sl 3 (eTs bx))],.cells [.p (.i .i64 0),.p (.s ⟨#[]⟩),.nilS]]) (fun j _=>has1s n (xs.take j)=false)
   [1,3,5,6,7,8,24,25,26] [3,5,6,45] (fun j (_:List PV)=>[.p (.s n),.ptr 3 0,.ptr 5 0,.ptr 6 0,.p (.b false),.p (.b true),.p (.sl 3 (eTs xs)),.p (.i .i64 (eTs xs).length),.p (.i .i64 (ix j))])
   (fun j s=>[.cells [.p (.i .i64 k),.p (.s m),.al true 45 3 (0+(eTs xs).length)],.cells [.p (.i .i64 bk),.p (.s bn),.p (.sl 3 (eTs bx))],.cells [.p (.i .i64 0),.p (.s ⟨#[]⟩),.nilS],.gr true 3 s]) (fun j s=>has1s n (xs.take j)=true∧s=eTs ((xs.take j).map (sub1 n (.mk bk bn bx))++xs.drop j))
   () ⟨rfl,rfl,rfl,rfl⟩ rfl ?_ ?_
  ·rintro j _ hj hs
   (conv=>whnf);refine asplit ?_ ?_<;>intro h3<;>conv=>whnf
   ·have hj1:=ix_tt h3 (by rw[eTs_len]) hj (by omega)
    obtain⟨a,ha⟩:∃b,xs[j]?=some b:=⟨_,List.getElem?_eq_getElem hj1⟩
    have hc:=ih a (List.mem_of_getElem? ha);unfold RepS at hc;have hts:=take_snoc ha;have hh:has1s n (xs.take (j+1))=has1 n a:=by rw[hts,has1s_app,hs];simp[has1s]
    have hset:=part_set (sub1 n (.mk bk bn bx)) xs j a ha;have hx0:(xs.take j).map (sub1 n (.mk bk bn bx))++xs.drop j=xs:=by rw[sub1s_none n _ _ hs,List.take_append_drop]
    rw[hx0]at hset;refine aidxk (eTs_get ha) (by omega) ?_;generalize has1 n a=q at hc hh;generalize sub1 n (.mk bk bn bx) a=y at hc hset;obtain⟨ak,an,ax⟩:=a;obtain⟨yk,yn,yx⟩:=y;(conv=>whnf);refine apc hc ?_;(conv=>whnf);refine asplit ?_ ?_<;>intro h4<;>conv=>whnf
    ·obtain rfl:q=false:=by simpa using h4
     exact⟨hj1,.inl ⟨(),⟨rfl,rfl,rfl,rfl⟩,hh⟩⟩
    ·obtain rfl:q=true:=by simpa using h4
     refine aneed (show 0=0∧(0+(eTs xs).length)*48≤140737488355328 by rw[eTs_len];omega) ?_;(conv=>whnf);refine aneed (show 0≤ix j∧(ix j).toNat<0+(eTs xs).length by rw[eTs_len,ix_eq (by omega)];omega) ?_;(conv=>whnf);refine aneed (show(ix j).toNat<([]++eTs xs).length by rw[List.nil_append,eTs_len,ix_eq (by omega)];omega) ?_;(conv=>whnf);refine⟨hj1,.inr ⟨_,⟨rfl,rfl,rfl,rfl⟩,hh,?_⟩⟩;show([]++eTs xs).set (ix j).toNat (eT (.mk yk yn yx))=_;rw[←hset,eTs_set,List.nil_append,ix_eq (by omega)];simp
   ·have hj1:=ix_ff h3 (by rw[eTs_len]) hj (by omega)
    subst hj1;rw[List.take_length]at hs;rw[hs,sub1s_none n _ _ hs];exact .inl rfl
  ·rintro j s hj ⟨hs,rfl⟩
   have hsl:(eTs ((xs.take j).map (sub1 n (.mk bk bn bx))++xs.drop j)).length=xs.length:=by rw[eTs_len];simp;omega
   (conv=>whnf);refine asplit ?_ ?_<;>intro h3<;>conv=>whnf
   ·have hj1:=ix_tt h3 (by rw[eTs_len]) hj (by omega)
    obtain⟨a,ha⟩:∃b,xs[j]?=some b:=⟨_,List.getElem?_eq_getElem hj1⟩
    have hc:=ih a (List.mem_of_getElem? ha);unfold RepS at hc;have hts:=take_snoc ha;have hh:has1s n (xs.take (j+1))=true:=by rw[hts,has1s_app,hs];rfl
    have hset:=part_set (sub1 n (.mk bk bn bx)) xs j a ha;have hsame:=part_same (sub1 n (.mk bk bn bx)) xs j a ha;have hn1:=sub1_none n (.mk bk bn bx) a;refine aidxk (eTs_get ha) (by omega) ?_;generalize has1 n a=q at hc hn1;generalize sub1 n (.mk bk bn bx) a=y at hc hset hsame hn1;generalize (xs.take j).map (sub1 n (.mk bk bn bx))++xs.drop j=ws at *;obtain⟨ak,an,ax⟩:=a;obtain⟨yk,yn,yx⟩:=y;(conv=>whnf);refine apc hc ?_;(conv=>whnf);refine asplit ?_ ?_<;>intro h4<;>conv=>whnf
    ·obtain rfl:q=false:=by simpa using h4
     exact⟨hj1,_,⟨rfl,rfl,rfl,rfl⟩,hh,by rw[hsame (hn1 rfl)]⟩
    ·refine aneed (show 0≤ix j∧(ix j).toNat<0+(eTs xs).length by rw[eTs_len,ix_eq (by omega)];omega) ?_
     (conv=>whnf);refine aneed (show(ix j).toNat<(eTs ws).length by rw[hsl,ix_eq (by omega)];omega) ?_;(conv=>whnf);refine⟨hj1,_,⟨rfl,rfl,rfl,rfl⟩,hh,?_⟩;show(eTs ws).set (ix j).toNat (eT (.mk yk yn yx))=_;rw[←hset,eTs_set,ix_eq (by omega)];simp
   ·have hj1:=ix_ff h3 (by rw[eTs_len]) hj (by omega)
    subst hj1;rw[List.take_length]at hs ⊢;rw[hs,List.drop_length,List.append_nil];refine .inr (.inr ⟨rfl,?_⟩);exact⟨by rw[eTs_len,eTs_len,List.length_map];omega,trivial⟩
theorem rep_spec (n:ByteArray) (b t:Ty):okT t→RepS n b t:=
 Ty.ind (Q:=fun t=>okT t→RepS n b t) (fun k m xs ih h=>rep_all n b (.mk k m xs) h fun a ha=>ih a ha (okTs_mem h.2 a ha)) t
end KK
end
section
open Go Go.AM Go.Proofs
set_option maxRecDepth 100000
namespace KK
def bigT (y:Ty):Bool:=decide (nodes y>400)||decide (hgt y>40)
def updE (n:ByteArray) (b:Ty) (p:ByteArray×Ty):ByteArray×Ty:=bif p.1==n then p else (p.1,sub1 n b p.2)
def bigE (n:ByteArray) (b:Ty) (p:ByteArray×Ty):Bool:=bif p.1==n||has1 n p.2 then bigT (updE n b p).2 else false
def curF (n:ByteArray) (b:Ty) (m:TM) (seen:List Nat):TM:=m.mapIdx fun j p=>bif seen.contains j then updE n b p else p
def lgF (n:ByteArray) (b:Ty) (m:TM) (seen:List Nat):Bool:=seen.any fun j=>match m[j]? with|some p=>bigE n b p|none=>false
theorem cur_get (n:ByteArray) (b:Ty) (m:TM) (seen:List Nat) (j:Nat):(curF n b m seen)[j]?=(m[j]?).map fun p=>bif seen.contains j then updE n b p else p:=by
 simp[curF,List.getElem?_mapIdx]
theorem cur_len (n:ByteArray) (b:Ty) (m:TM) (seen:List Nat):(curF n b m seen).length=m.length:=by simp[curF]
theorem not_con {seen:List Nat} {j:Nat} (h:j∉seen):seen.contains j=false:=by
 cases hq:seen.contains j with
 |false=>rfl
 |true=>exact absurd (by simpa using hq) h
theorem cur_snoc {n:ByteArray} {b:Ty} {m:TM} {seen:List Nat} {j:Nat} {p:ByteArray×Ty} (hj:j∉seen) (hp:m[j]?=some p):curF n b m (seen++[j])=(curF n b m seen).set j (updE n b p):=by
 apply List.ext_getElem?
 intro i;rw[List.getElem?_set,cur_get,cur_get,cur_len]
 by_cases q:j=i
 ·subst q
  have hlt:=(List.getElem?_eq_some_iff.1 hp).1;have hc:(seen++[j]).contains j=true:=by simp
  rw[hp,Option.map_some,hc,if_pos rfl,if_pos hlt];rfl
 ·have:(seen++[j]).contains i=seen.contains i:=by
   cases hq:seen.contains i with
   |true=>simp at hq ⊢;exact .inl hq
   |false=>
    refine not_con fun h=>?_;rcases List.mem_append.1 h with h|h
    ·rw[show seen.contains i=true by simpa using h]at hq;cases hq
    ·simp at h;exact q h.symm
  rw[this,if_neg q]
theorem cur_nil (n:ByteArray) (b:Ty) (m:TM):curF n b m []=m:=by
 apply List.ext_getElem?
 intro i;rw[cur_get];cases m[i]?<;>rfl
theorem lg_snoc {n:ByteArray} {b:Ty} {m:TM} {seen:List Nat} {j:Nat} {p:ByteArray×Ty} (hp:m[j]?=some p):lgF n b m (seen++[j])=(lgF n b m seen||bigE n b p):=by
 simp[lgF,hp]
theorem covers_all {N:Nat} {seen:List Nat} (h1:seen.Nodup) (h2:∀i∈seen,i<N) (h3:seen.length=N) {j:Nat} (hj:j<N):j∈seen:=by
 apply Classical.byContradiction
 intro h
 have:=nodup_le N (j::seen) (List.nodup_cons.2 ⟨h,h1⟩) (fun i hi=>by
  rcases List.mem_cons.1 hi with rfl|hi
  ·exact hj
  ·exact h2 i hi)
 simp at this;omega
theorem cur_all {n:ByteArray} {b:Ty} {m:TM} {seen:List Nat} (h1:seen.Nodup) (h2:∀i∈seen,i<m.length) (h3:seen.length=m.length):curF n b m seen=m.map (updE n b):=by
 apply List.ext_getElem?
 intro i;rw[cur_get,List.getElem?_map]
 cases hq:m[i]? with
 |none=>rfl
 |some p=>
  have:=covers_all h1 h2 h3 (List.getElem?_eq_some_iff.1 hq).1;have hc:seen.contains i=true:=by simpa using this
  rw[Option.map_some,Option.map_some,hc];rfl
theorem lg_all {n:ByteArray} {b:Ty} {m:TM} {seen:List Nat} (h1:seen.Nodup) (h2:∀i∈seen,i<m.length) (h3:seen.length=m.length):lgF n b m seen=m.any (bigE n b):=by
 rw[Bool.eq_iff_iff]
 constructor
 ·intro h
  obtain⟨j,hj,hb⟩:=List.any_eq_true.1 h
  cases hq:m[j]? with
  |none=>simp[hq]at hb
  |some p=>rw[hq]at hb;exact List.any_eq_true.2 ⟨p,List.mem_of_getElem? hq,hb⟩
 ·intro h
  obtain⟨p,hp,hb⟩:=List.any_eq_true.1 h;obtain⟨j,hj,e⟩:=List.getElem_of_mem hp;have hq:m[j]?=some p:=by rw[←e];exact List.getElem?_eq_getElem hj
  exact List.any_eq_true.2 ⟨j,covers_all h1 h2 h3 hj,by rw[hq];exact hb⟩
def keysT (m:TM):List ByteArray:=m.map (·.1)
theorem upd_key (n:ByteArray) (b:Ty) (p:ByteArray×Ty):(updE n b p).1=p.1:=by unfold updE;cases p.1==n<;>rfl
theorem cur_keys (n:ByteArray) (b:Ty) (m:TM) (seen:List Nat):keysT (curF n b m seen)=keysT m:=by
 apply List.ext_getElem?
 intro i;rw[keysT,keysT,List.getElem?_map,cur_get,List.getElem?_map]
 cases m[i]? with
 |none=>rfl
 |some p=>
  simp only[Option.map_some,Option.some.injEq]
  cases seen.contains i
  ·rfl
  ·exact upd_key n b p
theorem sput_at:∀{m:TM} {j:Nat} {k:ByteArray} {v:Ty},(keysT m).Nodup→m[j]?=some (k,v)→∀w,sput k w m=m.set j (k,w)
 | [],_,_,_,_,h,_=>by simp at h
 |(a,u)::r,0,k,v,_,h,w=>by
  simp at h;obtain⟨rfl,rfl⟩:=h;rw[sput,(beq_bytes a a).2 rfl];rfl
 |(a,u)::r,j+1,k,v,hn,h,w=>by
  have h':r[j]?=some (k,v):=by simpa using h
  have hn':=List.nodup_cons.1 hn
  have hne:(k==a)=false:=by
   cases hq:k==a with
   |false=>rfl
   |true=>
    have:=(beq_bytes k a).1 hq;subst this;exact absurd (List.mem_map.2 ⟨(k,v),List.mem_of_getElem? h',rfl⟩) hn'.1
  rw[sput,hne,cond_false,sput_at hn'.2 h' w];rfl
def bindF (m:TM) (n:ByteArray) (t:Ty):Int×TM:=
 bif occF n (appF m t) then (18,m) else ((bif (sput n (appF m t) m).any (bigE n (appF m t)) then 2 else 0),(sput n (appF m t) m).map (updE n (appF m t)))
theorem set_self {α:Type} {l:List α} {j:Nat} {a:α} (h:l[j]?=some a):l.set j a=l:=by
 apply List.ext_getElem?
 intro i;rw[List.getElem?_set];split
 ·rename_i q;subst q;split
  ·exact h.symm
  ·rename_i q;exact absurd (List.getElem?_eq_some_iff.1 h).1 q
 ·rfl
theorem bind_spec (m:TM) (hm:okM m) (n:ByteArray) (t:Ty) (ht:okT t) (hk:(keysT (sput n (appF m t) m)).Nodup) (hokA:okT (appF m t)) (hok1:∀p∈sput n (appF m t) m,okT p.2)
 (hsz:∀p∈sput n (appF m t) m,nodes p.2≤1099511627776∧nodes (sub1 n (appF m t) p.2)≤1099511627776):
 AMem Tryz.prog 215 [.ptr 1000000000 0,.p (.s n),.p (eT t)] (hpS m) (.p (.i .i64 (bindF m n t).1)) (hpS (bindF m n t).2):=by
 have hc1:=app_spec m hm t ht;unfold AppS at hc1;unfold bindF;generalize appF m t=b at hc1 hk hokA hok1 hsz ⊢;have hc2:=occ_spec n b hokA;generalize occF n b=oc at hc2 ⊢;have hput:=mput_eM eT n b m;generalize hm1:sput n b m=m1 at hput hk hok1 hsz ⊢;obtain⟨tk,tn,tx⟩:=t;have hrep:∀v,okT v→RepS n b v:=fun v hv=>rep_spec n b v hv;obtain⟨bk,bn,bx⟩:=b;refine AMem.introS (tyOf_ok Tryz.prog) Tryz.func215 rfl (by rfl) (by show 3≤_;decide) rfl ?_;refine AWp.cut (tyOf_ok Tryz.prog) hmix (by kernel_rfl) 5 [0,1,5,6,7] [5,1000000000,1000000001] (fun _:Unit=>[.ptr 1000000000 0,.p (.s n),.ptr 5 0,.p (.i .i64 0),.p (.b false)]) (fun _=>[.cells [.p (.i .i64 bk),.p (.s bn),.p (.sl 3 (eTs bx))],.cells [.mp 1000000001],.map .ks (eM eT m1)]) (fun _=>oc=false) ?_ ?_
 ·conv=>whnf
  refine amr [1000000000,1000000001] 10000 hc1 ?_;(conv=>whnf);refine apc hc2 ?_;(conv=>whnf);refine asplit ?_ ?_<;>intro h1<;>conv=>whnf
  ·rw[h1]
   exact⟨.inl rfl,⟨.inl rfl,trivial⟩,⟨rfl,rfl⟩,trivial⟩
  ·first|refine aneed (.inl (by kernel_rfl)) ?_|refine aneed (by kernel_rfl) ?_
   (conv=>whnf);refine⟨(),⟨?_,rfl,rfl,rfl⟩,h1⟩;rw[←hput];rfl
 ·rintro _ rfl
  refine AWp.seq ?_
  refine AWp.rng (tyOf_ok Tryz.prog) hmix (kt:=9) (et:=32) (σ:=TM×Bool) (N:=m1.length) (kd:=.ks) 4 1000000001 [0,1,5,6,7] [5,1000000000,1000000001] (fun _ s=>[.ptr 1000000000 0,.p (.s n),.ptr 5 0,.p (.i .i64 0),.p (.b s.2)])
   (fun _ s=>[.cells [.p (.i .i64 bk),.p (.s bn),.p (.sl 3 (eTs bx))],.cells [.mp 1000000001],.map .ks (eM eT s.1)]) (fun seen s=>s=(curF n (.mk bk bn bx) m1 seen,lgF n (.mk bk bn bx) m1 seen)∧seen.Nodup∧∀i∈seen,i<m1.length) (fun _ s=>eM eT s.1)
   ⟨rfl,rfl,rfl,rfl,rfl⟩ (by kernel_rfl) (by kernel_rfl) (fun _ _ _ _ h=>h) ⟨rfl,rfl,rfl⟩ ⟨rfl,rfl,rfl⟩ ⟨rfl,rfl,rfl⟩ (by decide) (by decide) ⟨rfl,rfl,rfl,rfl⟩ (by kernel_rfl) (by kernel_rfl) (by decide) ?_ ?_ ?_ ?_
  ·conv=>whnf
   exact⟨rfl,(m1,false),Tl.of ⟨rfl,rfl,rfl,rfl⟩,by rw[cur_nil];rfl,List.nodup_nil,by simp⟩
  ·rintro seen s ⟨rfl,_,_⟩
   exact⟨rfl,by simp[eM,cur_len]⟩
  ·rintro seen s ⟨rfl,h1,h2⟩ h3
   rw[cur_all h1 h2 h3,lg_all h1 h2 h3];generalize m1.any (bigE n (.mk bk bn bx))=q;refine AWp.fin (tyOf_ok Tryz.prog) hmix (by kernel_rfl) ?_;(conv=>whnf);refine asplit ?_ ?_<;>intro h4<;>conv=>whnf
   ·subst h4;exact⟨.inl rfl,⟨.inl rfl,trivial⟩,⟨rfl,rfl⟩,trivial⟩
   ·subst h4;exact⟨.inl rfl,⟨.inl rfl,trivial⟩,⟨rfl,rfl⟩,trivial⟩
  ·rintro B seen s j x ⟨rfl,h1,h2⟩ hj hjs hlt hx
   have hcj:=cur_get n (.mk bk bn bx) m1 seen j;obtain⟨⟨ky,v⟩,hp⟩:∃p,m1[j]?=some p:=⟨_,List.getElem?_eq_getElem hj⟩
   rw[hp,Option.map_some,not_con hjs,cond_false]at hcj;have hmem:=List.mem_of_getElem? hp
   have hx':x=(.s ky,eT v):=by
    have:(eM eT (curF n (.mk bk bn bx) m1 seen))[j]?=some x:=hx;simp only[eM,List.getElem?_map,hcj,Option.map_some,Option.some.injEq]at this;exact this.symm
   subst hx';have hcs:=cur_snoc (n:=n) (b:=.mk bk bn bx) hjs hp;have hls:=lg_snoc (n:=n) (b:=.mk bk bn bx) (seen:=seen) hp;have hpa:∀w,sput ky w (curF n (.mk bk bn bx) m1 seen)=(curF n (.mk bk bn bx) m1 seen).set j (ky,w):=fun w=>sput_at (by rw[cur_keys];exact hk) hcj w
   have hnd:(seen++[j]).Nodup:=by
    rw[List.nodup_append];exact⟨h1,by simp,fun a ha c hc=>by simp at hc;subst hc;exact fun e=>hjs (e ▸ ha)⟩
   have hin:∀i∈seen++[j],i<m1.length:=by
    intro i hi;rcases List.mem_append.1 hi with hi|hi
    ·exact h2 i hi
    ·simp at hi;subst hi;exact hj
   obtain⟨hs1,hs2⟩:=hsz _ hmem;have hc3:=hrep v (hok1 _ hmem);unfold RepS at hc3;have hn1:=sub1_none n (.mk bk bn bx) v;simp only at hs1 hs2 hc3 hn1;have hself:=set_self hcj;simp only[updE,bigE]at hcs hls;generalize hcu:curF n (.mk bk bn bx) m1 seen=c at hcs hpa hself hx hcj ⊢;generalize hlg:lgF n (.mk bk bn bx) m1 seen=lg at hls ⊢;obtain⟨vk,vn,vx⟩:=v;(conv=>whnf);refine asplit ?_ ?_<;>intro g1<;>conv=>whnf
   ·rw[bl_iff,Bool.not_eq_true']at g1
    generalize has1 n (.mk vk vn vx)=q at hc3 hn1 hls;generalize sub1 n (.mk bk bn bx) (.mk vk vn vx)=y at hc3 hn1 hs2 hcs hls;obtain⟨yk,yn,yx⟩:=y;refine apc hc3 ?_;(conv=>whnf);refine asplit ?_ ?_<;>intro g0<;>conv=>whnf
    ·obtain rfl:q=false:=by simpa using g0
     have hy:=hn1 rfl;refine⟨(c,lg),Tl.of ⟨rfl,rfl,rfl,rfl⟩,?_,hnd,hin⟩;rw[hcs,hls,g1,cond_false,hy,hself];simp
    ·obtain rfl:q=true:=by simpa using g0
     first|refine aneed (.inl (by kernel_rfl)) ?_|refine aneed (by kernel_rfl) ?_
     (conv=>whnf);refine apc (size_spec (.mk yk yn yx) hs2) ?_;(conv=>whnf);refine asplit ?_ ?_<;>intro g2<;>conv=>whnf
     ·subst g2
      refine⟨(sput ky (.mk yk yn yx) c,true),Tl.of ⟨?_,rfl,rfl,rfl⟩,?_,hnd,hin⟩
      ·show [some (AObj.cells _),some (AObj.cells _),some (AObj.map .ks (mput (.s ky) (eT (.mk yk yn yx)) (eM eT c)))]=_
       rw[mput_eM];rfl
      ·rw[hcs,hls,hpa,g1]
       simp[bigT,g1]
     ·subst g2
      refine asplit ?_ ?_<;>intro g3<;>conv=>whnf
      ·replace g3:decide ((nodes (.mk yk yn yx):Int)>400)=true:=g3
       have g3':400<nodes (.mk yk yn yx):=by have:=of_decide_eq_true g3;omega
       refine⟨(sput ky (.mk yk yn yx) c,true),Tl.of ⟨?_,rfl,rfl,rfl⟩,?_,hnd,hin⟩
       ·show [some (AObj.cells _),some (AObj.cells _),some (AObj.map .ks (mput (.s ky) (eT (.mk yk yn yx)) (eM eT c)))]=_
        rw[mput_eM];rfl
       ·rw[hcs,hls,hpa,g1]
        simp[bigT,g3']
      ·replace g3:decide ((nodes (.mk yk yn yx):Int)>400)=false:=g3
       have g3':¬400<nodes (.mk yk yn yx):=by have:=of_decide_eq_false g3;omega
       have g4:decide ((hgt (.mk yk yn yx):Int)>40)=decide (hgt (.mk yk yn yx)>40):=by
        rw[decide_eq_decide];omega
       have g5:(AV.p (.b (decide ((hgt (.mk yk yn yx):Int)>40))))=AV.p (.b (decide (hgt (.mk yk yn yx)>40))):=by rw[g4]
       refine⟨(sput ky (.mk yk yn yx) c,decide (hgt (.mk yk yn yx)>40)),Tl.of ⟨?_,?_,rfl,rfl⟩,?_,hnd,hin⟩
       ·show [some (AObj.cells _),some (AObj.cells _),some (AObj.map .ks (mput (.s ky) (eT (.mk yk yn yx)) (eM eT c)))]=_
        rw[mput_eM];rfl
       ·rw[←g5];rfl
       ·rw[hcs,hls,hpa,g1]
        simp[bigT,g3']
   ·refine asplit ?_ ?_<;>intro g9<;>conv=>whnf
    ·rw[g1]at g9;cases g9
    ·rw[bl_iff,Bool.not_eq_false']at g1
     first|refine aneed (.inl (by kernel_rfl)) ?_|refine aneed (by kernel_rfl) ?_
     (conv=>whnf);refine apc (size_spec (.mk vk vn vx) hs1) ?_;(conv=>whnf);refine asplit ?_ ?_<;>intro g2<;>conv=>whnf
     ·subst g2
      refine⟨(sput ky (.mk vk vn vx) c,true),Tl.of ⟨?_,rfl,rfl,rfl⟩,?_,hnd,hin⟩
      ·show [some (AObj.cells _),some (AObj.cells _),some (AObj.map .ks (mput (.s ky) (eT (.mk vk vn vx)) (eM eT c)))]=_
       rw[mput_eM];rfl
      ·rw[hcs,hls,hpa,g1]
       simp[bigT,g1]
     ·subst g2
      refine asplit ?_ ?_<;>intro g3<;>conv=>whnf
      ·replace g3:decide ((nodes (.mk vk vn vx):Int)>400)=true:=g3
       have g3':400<nodes (.mk vk vn vx):=by have:=of_decide_eq_true g3;omega
       refine⟨(sput ky (.mk vk vn vx) c,true),Tl.of ⟨?_,rfl,rfl,rfl⟩,?_,hnd,hin⟩
       ·show [some (AObj.cells _),some (AObj.cells _),some (AObj.map .ks (mput (.s ky) (eT (.mk vk vn vx)) (eM eT c)))]=_
        rw[mput_eM];rfl
       ·rw[hcs,hls,hpa,g1]
        simp[bigT,g3']
      ·replace g3:decide ((nodes (.mk vk vn vx):Int)>400)=false:=g3
       have g3':¬400<nodes (.mk vk vn vx):=by have:=of_decide_eq_false g3;omega
       have g4:decide ((hgt (.mk vk vn vx):Int)>40)=decide (hgt (.mk vk vn vx)>40):=by
        rw[decide_eq_decide];omega
       have g5:(AV.p (.b (decide ((hgt (.mk vk vn vx):Int)>40))))=AV.p (.b (decide (hgt (.mk vk vn vx)>40))):=by rw[g4]
       refine⟨(sput ky (.mk vk vn vx) c,decide (hgt (.mk vk vn vx)>40)),Tl.of ⟨?_,?_,rfl,rfl⟩,?_,hnd,hin⟩
       ·show [some (AObj.cells _),some (AObj.cells _),some (AObj.map .ks (mput (.s ky) (eT (.mk vk vn vx)) (eM eT c)))]=_
        rw[mput_eM];rfl
       ·rw[←g5];rfl
       ·rw[hcs,hls,hpa,g1]
        simp[bigT,g3']
end KK
end
section
open Go Go.AM Go.Proofs
set_option maxRecDepth 100000
namespace KK
mutual
theorem okT_of_nodes:∀(t:Ty),nodes t≤1099511627776→okT t
 |.mk k n xs,h=>by
  rw[nodes]at h;have:=nodes_len xs;exact⟨by omega,okTs_of_nodes xs (by omega)⟩
theorem okTs_of_nodes:∀(l:List Ty),nodess l≤1099511627776→okTs l
 | [],_=>trivial
 |t::r,h=>by rw[nodess]at h;exact⟨okT_of_nodes t (by omega),okTs_of_nodes r (by omega)⟩
end
def Good (m:TM):Prop:=(keysT m).Nodup∧∀p∈m,nodes p.2≤400
theorem slook_mem:∀{m:TM} {k:ByteArray} {x:Ty},slook k m=some x→(k,x)∈m
 | [],_,_,h=>by cases h
 |(a,u)::r,k,x,h=>by
  rw[slook]at h
  cases hq:k==a with
  |true=>
   rw[hq,cond_true]at h;cases h;rw[(beq_bytes k a).1 hq];simp
  |false=>rw[hq,cond_false]at h;exact List.mem_cons_of_mem _ (slook_mem h)
theorem Good.look {m:TM} (h:Good m) {k:ByteArray} {x:Ty} (hx:slook k m=some x):nodes x≤400:=h.2 _ (slook_mem hx)
theorem Good.okM {m:TM} (h:Good m):okM m:=fun k x hx=>okT_of_nodes x (by have:=h.look hx;omega)
theorem keys_sput (k:ByteArray) (v:Ty):∀(m:TM),(keysT (sput k v m)=keysT m∧k∈keysT m)∨(keysT (sput k v m)=keysT m++[k]∧k∉keysT m)
 | []=>.inr ⟨rfl,by simp[keysT]⟩
 |(a,u)::r=>by
  rw[sput]
  cases hq:k==a with
  |true=>
   have:=(beq_bytes k a).1 hq;subst this;exact .inl ⟨rfl,by simp[keysT]⟩
  |false=>
   have hne:k≠a:=fun e=>by subst e;rw[(beq_bytes k k).2 rfl]at hq;cases hq
   rcases keys_sput k v r with⟨h1,h2⟩|⟨h1,h2⟩
   ·refine .inl ⟨?_,?_⟩
    ·show a::keysT (sput k v r)=_;rw[h1];rfl
    ·show k∈a::keysT r;exact List.mem_cons_of_mem _ h2
   ·refine .inr ⟨?_,?_⟩
    ·show a::keysT (sput k v r)=_;rw[h1];rfl
    ·show k∉a::keysT r
     intro h;rcases List.mem_cons.1 h with h|h
     ·exact hne h
     ·exact h2 h
theorem nodup_sput {m:TM} (h:(keysT m).Nodup) (k:ByteArray) (v:Ty):(keysT (sput k v m)).Nodup:=by
 rcases keys_sput k v m with⟨h1,_⟩|⟨h1,h2⟩
 ·rw[h1];exact h
 ·rw[h1,List.nodup_append]
  exact⟨h,by simp,fun a ha b hb=>by simp at hb;subst hb;exact fun e=>h2 (e ▸ ha)⟩
theorem mem_sput:∀{m:TM} {k:ByteArray} {v:Ty} {p:ByteArray×Ty},p∈sput k v m→p=(k,v)∨p∈m
 | [],k,v,p,h=>by simp[sput]at h;exact .inl h
 |(a,u)::r,k,v,p,h=>by
  rw[sput]at h
  cases hq:k==a with
  |true=>rw[hq,cond_true]at h;rcases List.mem_cons.1 h with h|h;exact .inl h;exact .inr (List.mem_cons_of_mem _ h)
  |false=>
   rw[hq,cond_false]at h;rcases List.mem_cons.1 h with h|h
   ·exact .inr (h ▸ List.mem_cons_self)
   ·rcases mem_sput h with h|h
    ·exact .inl h
    ·exact .inr (List.mem_cons_of_mem _ h)
mutual
theorem nodes_app {m:TM} (hm:Good m):∀(t:Ty),nodes (appF m t)≤nodes t*400
 |.mk k n xs=>by
  rw[appF];have h:=nodess_apps hm xs
  cases hq:(bif k==5 then slook n m else none) with
  |none=>
   show nodes (.mk k n (appF.appFs m xs))≤_;rw[appFs_map,nodes,nodes];omega
  |some x=>
   have:nodes x≤400:=by
    cases hk:k==5 with
    |true=>rw[hk,cond_true]at hq;exact hm.look hq
    |false=>rw[hk,cond_false]at hq;cases hq
   show nodes x≤_;rw[nodes];omega
theorem nodess_apps {m:TM} (hm:Good m):∀(l:List Ty),nodess (l.map (appF m))≤nodess l*400
 | []=>by simp[nodess]
 |t::r=>by
  have:=nodes_app hm t;have:=nodess_apps hm r;rw[List.map_cons,nodess,nodess];omega
end
mutual
theorem nodes_sub (n:ByteArray) (b:Ty):∀(t:Ty),nodes (sub1 n b t)≤nodes t*nodes b
 |.mk k m xs=>by
  rw[sub1];have h:=nodess_sub n b xs;have hb:=nodes_pos b
  cases hq:(k==5&&m==n) with
  |true=>rw[cond_true,nodes];exact Nat.le_mul_of_pos_left _ (by omega)
  |false=>
   rw[cond_false,sub1s_map,nodes,nodes,Nat.add_mul];omega
theorem nodess_sub (n:ByteArray) (b:Ty):∀(l:List Ty),nodess (l.map (sub1 n b))≤nodess l*nodes b
 | []=>by simp[nodess]
 |t::r=>by
  have:=nodes_sub n b t;have:=nodess_sub n b r;rw[List.map_cons,nodess,nodess,Nat.add_mul];omega
end
theorem bind_ok (m:TM) (hm:Good m) (n:ByteArray) (t:Ty) (ht:nodes t≤400):
 AMem Tryz.prog 215 [.ptr 1000000000 0,.p (.s n),.p (eT t)] (hpS m) (.p (.i .i64 (bindF m n t).1)) (hpS (bindF m n t).2):=by
 have hb:=nodes_app hm t
 have hsm:∀p∈sput n (appF m t) m,nodes p.2≤160000:=fun p hp=>by
  rcases mem_sput hp with rfl|hp
  ·simp only;omega
  ·have:=hm.2 p hp;omega
 refine bind_spec m hm.okM n t (okT_of_nodes t (by omega)) (nodup_sput hm.1 _ _) (okT_of_nodes _ (by omega)) (fun p hp=>okT_of_nodes _ (by have:=hsm p hp;omega)) (fun p hp=>⟨by have:=hsm p hp;omega,?_⟩);have h1:=hsm p hp;have h2:=nodes_sub n (appF m t) p.2;have h3:nodes p.2*nodes (appF m t)≤160000*160000:=Nat.mul_le_mul h1 (by omega);omega
end KK
end
section
open Go Go.AM Go.Proofs TR
set_option maxRecDepth 100000
namespace CV
def nostr:ByteArray:=⟨#[]⟩
def opn (p:Pt):Bool:=p.kind==1||p.kind==2
def pnum:Pt→Int|.mk _ n _ _=>n
def alike (a b:Pt):Bool:=(a.kind==b.kind)&&((pnum a==pnum b)&&((a.text==b.text)&&(a.args.length==b.args.length)))
def setArgs (h:Pt) (xs:List Pt):Pt:=match h with|.mk k n t _=>.mk k n t xs
inductive Tp where|nat|bool|int|pair deriving DecidableEq
inductive Vl where
 |int (n:Int)
 |bool (b:Bool)
 |mk (c:ByteArray) (xs:List Vl)
def nZero:ByteArray:=⟨#[90,101,114,111]⟩
def nNext:ByteArray:=⟨#[78,101,120,116]⟩
def nPair:ByteArray:=⟨#[80,97,105,114]⟩
def nOne:ByteArray:=⟨#[79,110,101]⟩
def sig:Tp→List (ByteArray×List Tp)
 |.nat=>[(nZero,[]),(nNext,[.nat])]
 |.pair=>[(nPair,[.nat,.bool]),(nOne,[.int])]
 |.bool=>[]
 |.int=>[]
mutual
def okV:Tp→Vl→Prop
 |t,.int _=>t=.int
 |t,.bool _=>t=.bool
 |t,.mk c xs=>∃ts,(c,ts)∈sig t∧okVs ts xs
def okVs:List Tp→List Vl→Prop
 | [],[]=>True
 |t::ts,x::xs=>okV t x∧okVs ts xs
 | [],_::_=>False
 |_::_,[]=>False
end
mutual
def okP:Tp→Pt→Prop
 |τ,.mk k n t xs=>(k=1∨k=2)∨(k=3∧τ=.int∧t=nostr∧xs=[])∨(k=4∧τ=.bool∧(n=0∨n=1)∧t=nostr∧xs=[])∨(k=6∧n=0∧∃ts,(t,ts)∈sig τ∧okPs ts xs)
def okPs:List Tp→List Pt→Prop
 | [],[]=>True
 |t::ts,x::xs=>okP t x∧okPs ts xs
 | [],_::_=>False
 |_::_,[]=>False
end
mutual
def fits:Pt→Vl→Bool
 |.mk k n t xs,v=>bif k==1||k==2 then true else bif k==3 then (match v with|.int i=>i==n|_=>false) else bif k==4 then (match v with|.bool b=>(bif b then 1 else 0:Int)==n|_=>false)
  else bif k==6 then (match v with|.mk c ys=>(t==c)&&fitsL xs ys|_=>false) else false
def fitsL:List Pt→List Vl→Bool
 | [],[]=>true
 |x::xs,v::vs=>fits x v&&fitsL xs vs
 | [],_::_=>false
 |_::_,[]=>false
end
end CV
end
section
open Go Go.AM Go.Proofs TR
set_option maxRecDepth 100000
namespace CV
structure Hd (τ:Tp) (x:Pt) (ts:List Tp) (mkv:List Vl→Vl):Prop where
 len:x.args.length=ts.length
 args:okPs ts x.args
 val:∀ws,okVs ts ws→okV τ (mkv ws)
 self:∀(xs:List Pt) (ws:List Vl),okPs ts xs→okVs ts ws→fits (setArgs x xs) (mkv ws)=fitsL xs ws
 like:∀y,okP τ y→opn y=false→alike y x=true→okPs ts y.args∧∀ws,okVs ts ws→fits y (mkv ws)=fitsL y.args ws
 unlike:∀y,okP τ y→opn y=false→alike y x=false→∀ws,okVs ts ws→fits y (mkv ws)=false
 inv:∀(v:Vl) (xs:List Pt),okV τ v→okPs ts xs→fits (setArgs x xs) v=true→∃ws,okVs ts ws∧v=mkv ws
 set:∀xs,okPs ts xs→okP τ (setArgs x xs)
end CV
end
section
open Go Go.AM Go.Proofs TR
set_option maxRecDepth 100000
end
section
open Go Go.AM Go.Proofs TR
set_option maxRecDepth 100000
end
section
open Go Go.AM Go.Proofs TR
set_option maxRecDepth 100000
end
section
open Go Go.AM Go.Proofs TR
set_option maxRecDepth 100000
end
section
open Go Go.AM Go.Proofs TR
set_option maxRecDepth 100000
end
section
open Go Go.AM Go.Proofs TR
set_option maxRecDepth 100000
end
section
open Go Go.AM Go.Proofs Go.Shelf TR
set_option maxRecDepth 100000
namespace CV
theorem bodyOf {f:Nat} {fn:Func} {c:Code} (hf:Tryz.prog.funcs[f]?=some fn) (hb:fn.body=some c) (hn:(fn.name== "runtime.NumGoroutine")=false):hasBody Tryz.prog f:=⟨fn,c,hf,hb,hn⟩
theorem infoParts {o:Option TypeInfo} {a b c:Nat} (h:o.map (fun i=>(i.zero.map fun z=>z.cells.size,i.size,i.bytes))=some (some a,b,c)):∃i z,o=some i∧i.zero=some z∧z.cells.size=a∧i.size=b∧i.bytes=c:=by
 cases o with
 |none=>cases h
 |some i=>
  simp only[Option.map_some,Option.some.injEq,Prod.mk.injEq,Option.map_eq_some_iff]at h;obtain⟨⟨z,h1,h2⟩,h3,h4⟩:=h;exact⟨i,z,rfl,h1,h2,h3,h4⟩
theorem grow_size (z:Array Value) (n cap:Nat):cap*z.size≤(([]:List Value).toArray++Builtin.zeroCells z (0+n-0)++Builtin.zeroCells z (cap-(0+n))).size:=by
 simp only[Array.size_append,List.size_toArray,List.length_nil,zeroCells_size,Nat.zero_add,Nat.sub_zero];rw[←Nat.add_mul];exact Nat.mul_le_mul_right _ (by omega)
theorem grow_rel {f:Nat} (sz:Nat) (hz:0<sz) (g:Gh) (w:World) (n:Nat) (hh:HRel g w []) (hbn:∀b ow,g.own b=some ow→b<w.heap.size)
 (h0:n=0→Calls Tryz.prog f #[.slice none 0 0,.int .i64 n] w fun e w'=>e=.returned (.slice none 0 0)∧w'=w)
 (h1:0<n→Calls Tryz.prog f #[.slice none 0 0,.int .i64 n] w fun e w'=>∃(cap:Nat) (cs:Array Value) (E:TypeId),e=.returned (.slice (some ⟨w.heap.size,0,none⟩) 0 cap)∧w'=w.drew.alloc (.cells cs E)∧cap*sz≤cs.size):
 Calls Tryz.prog f [.slice none 0 0,.int .i64 n].toArray w fun en w'=>∃v g',en=.returned v∧VRel g' w' (domOf []) (some .ret) v (.so sz [])∧HRel g' w' []∧(∀b ow,g'.own b=some ow→b<w'.heap.size)∧Ext g w g' w':=by
 by_cases hn:n=0
 ·refine(h0 hn).mono ?_
  rintro e w' ⟨rfl,rfl⟩;exact⟨_,g,rfl,.full _ none sz [] hz (.nil sz),hh,hbn,Ext.refl _ _⟩
 ·refine(h1 (by omega)).mono ?_
  rintro e w' ⟨cap,cs,E,rfl,rfl,hcs⟩;refine⟨_,g.new w.heap.size 0 (some .ret),rfl,?_,⟨fun l x hx=>(by cases hx),fun l x hx=>(by cases hx),fun l x hx=>(by cases hx)⟩,fun b ow ho=>?_,?_⟩
  ·exact .own .ret ⟨w.heap.size,0,none⟩ cap sz [] cs E hz (.sl _ cap sz [] (fun _ _=>.nilIface) (fun _=>rfl) (Nat.zero_le _) (fun x hx=>by cases hx) (fun j x hx=>by cases hx) (fun j x hx=>by cases hx)) (by simp[Gh.new]) (by simp[Gh.new]) (push_new (w:={ w with drawn:=w.drawn+1 })) (by simpa using hcs)
  ·show b<(World.push { w with drawn:=w.drawn+1 } (.cells cs E (0,0))).heap.size
   rw[push_size];show b<w.heap.size+1
   by_cases hb:b=w.heap.size
   ·omega
   ·have:=hbn b ow (by simpa[Gh.new,hb] using ho);omega
  ·exact(Ext.drew (k:=w.drawn+1)).trans (Ext.push (w:={ w with drawn:=w.drawn+1 }) (fun b hb=>by simp[Gh.new,Nat.ne_of_lt (show b<w.heap.size from hb)]) (fun a=>frozen_push a) (fun _ _=>rfl))
def growPat_ren:Go.Shelf.Ren:=⟨fun|4=>220|n=>n,fun|22=>127|25=>130|n=>n,fun|n=>n⟩
theorem growPat:Lays8.n4 Tryz.prog growPat_ren:={
 mixed:=by kernel_rfl
 f4:=⟨Tryz.f220.name,by kernel_rfl,Tryz.func220.trans (congrArg some (by kernel_rfl))⟩
 t0:=Tryz.underlying0
 a0:=Tryz.isAgg0
 z0:=Tryz.sizeOf0
 v0:=Tryz.zeroValue0
 t3:=Tryz.underlying3
 a3:=Tryz.isAgg3
 z3:=Tryz.sizeOf3
 v3:=Tryz.zeroValue3
 t4:=Tryz.underlying4
 a4:=Tryz.isAgg4
 z4:=Tryz.sizeOf4
 v4:=Tryz.zeroValue4
 t9:=Tryz.underlying9
 a9:=Tryz.isAgg9
 z9:=Tryz.sizeOf9
 v9:=Tryz.zeroValue9
 t20:=Tryz.underlying20
 a20:=Tryz.isAgg20
 z20:=Tryz.sizeOf20
 v20:=Tryz.zeroValue20
 t22:=Tryz.underlying127
 a22:=Tryz.isAgg127
 z22:=Tryz.sizeOf127
 v22:=Tryz.zeroValue127 }
theorem growPat_spec (n:Nat) (hn:n≤100000000):AMem Tryz.prog 220 [.nilS,.p (.i .i64 n)] [] (.so 4 []) []:=by
 refine⟨⟨bodyOf Tryz.func220 rfl (by rfl),rfl⟩,fun g w us hh hbn hlen hrel=>?_⟩
 match us,hlen with
 | [u1,u2],_=>
 have r1:=hrel 0 u1 _ rfl rfl;have r2:=hrel 1 u2 _ rfl rfl;cases r1
 cases r2 with
 |p _ _ _ r2=>
 cases r2;obtain⟨i0,z,hi,hz,hz0,hz1,hz2⟩:=infoParts (show(Tryz.prog.info? 130).map (fun i=>(i.zero.map fun z=>z.cells.size,i.size,i.bytes))=some (some 4,4,56) by kernel_rfl)
 exact grow_rel 4 (by decide) g w n hh hbn (fun h=>by
  refine(Any8.slices_Grow_room growPat none 0 0 n w (by decide) (by decide) (by omega) (by omega)).mono ?_;rintro e w' ⟨h1,h2⟩;exact⟨h1,h2⟩) (fun h=>by
  refine(Any8.slices_Grow_grow growPat i0 z hi hz (by omega) none 0 0 n [] w (Nat.le_refl 0) (by omega) (by rw[hz2];omega) (by omega) (by simp) (fun _=>rfl) (fun a h=>by cases h)).mono ?_;rintro e w' ⟨h1,h2⟩;exact⟨_,_,_,h1,h2,by rw[←hz0];exact grow_size z.cells n _⟩)
def lens (xss:List (List PV)):Nat:=(xss.map List.length).sum
theorem lens_take (xss:List (List PV)) (k:Nat) {x:List PV} (h:xss[k]?=some x):lens (xss.take (k+1))=lens (xss.take k)+x.length:=by
 unfold lens;rw[List.take_add_one,h];simp
theorem lens_le (xss:List (List PV)) (k:Nat):lens (xss.take k)≤lens xss:=by
 unfold lens
 conv=>rhs;rw[←List.take_append_drop k xss]
 rw[List.map_append,List.sum_append];omega
theorem flat_len (xss:List (List PV)):xss.flatten.length=lens xss:=by unfold lens;rw[List.length_flatten]
noncomputable abbrev tyPat:Nat→Option TI:=hint (tyOf Tryz.prog) 127 [9999]
theorem tyPat_ok:TyOK Tryz.prog tyPat:=(tyOf_ok Tryz.prog).hint 127 [9999]
theorem concatPat_spec (xss:List (List PV)) (hn:xss.length≤1000) (hx:lens xss≤10000000):AMem Tryz.prog 171 [.p (.sl 1 (xss.map (.sl 4)))] [] (.p (.sl 4 xss.flatten)) []:=by
 have hG:=growPat_spec (lens xss) (by omega);refine AMem.intro tyPat_ok hmix Tryz.func171 rfl (by rfl) (by kernel_rfl) (by show 1≤_;decide) rfl ?_;(conv=>whnf);refine loopS tyPat_ok hmix (by kernel_rfl) xss.length [0,2,3,9,10,11] [] (fun k (_:Unit)=>[.p (.sl 1 (xss.map (.sl 4))),.nilS,.p (.i .i64 (lens (xss.take k))),.p (.sl 1 (xss.map (.sl 4))),.p (.i .i64 (xss.map (PV.sl 4)).length),.p (.i .i64 (ix k))]) (fun _ _=>[]) (fun _ _=>True) () ⟨rfl,rfl,rfl,rfl⟩ trivial ?_;intro k _ hk _;(conv=>whnf);refine asplit ?_ ?_<;>intro h1<;>conv=>whnf
 ·have hk1:=ix_tt h1 (by simp) hk (by omega)
  obtain⟨b,hb1⟩:∃b,xss[k]?=some b:=⟨_,List.getElem?_eq_getElem hk1⟩
  have hl1:=lens_take xss k hb1;have hl2:=lens_le xss (k+1);refine aidxk (x:=PV.sl 4 b) (by simp[hb1]) (by omega) ?_;(conv=>whnf);have hwr:IntKind.i64.wrap ((lens (xss.take k):Int)+(b.length:Int))=(lens (xss.take (k+1)):Int):=(Go.AM.wrap64 (x:=(lens (xss.take k):Int)+(b.length:Int)) (by omega) (by omega)).trans (by omega);rw[hwr,decide_eq_false (show ¬((lens (xss.take (k+1)):Int)<0) by omega)];(conv=>whnf);exact⟨hk1,(),⟨rfl,rfl,rfl,rfl⟩,trivial⟩
 ·have hk1:=ix_ff h1 (by simp) hk (by omega)
  subst hk1;rw[List.take_length];refine amc [] 500 hG ?_;(conv=>whnf);refine loopS tyPat_ok hmix (by kernel_rfl) xss.length [0,2,6,25,26,27] [] (fun k (_:Unit)=>[.p (.sl 1 (xss.map (.sl 4))),.nilS,.so 4 (xss.take k).flatten,.p (.sl 1 (xss.map (.sl 4))),.p (.i .i64 (xss.map (PV.sl 4)).length),.p (.i .i64 (ix k))]) (fun _ _=>[]) (fun _ _=>True) () ⟨rfl,rfl,rfl,rfl⟩ trivial ?_;intro k _ hk _;(conv=>whnf);refine asplit ?_ ?_<;>intro h2<;>conv=>whnf
  ·have hk1:=ix_tt h2 (by simp) hk (by omega)
   obtain⟨b,hb1⟩:∃b,xss[k]?=some b:=⟨_,List.getElem?_eq_getElem hk1⟩
   have hl1:=lens_take xss k hb1;have hl2:=lens_le xss (k+1);have hfl:(xss.take (k+1)).flatten=(xss.take k).flatten++b:=by rw[List.take_add_one,hb1];simp
   have hfn:=flat_len (xss.take k);refine aidxk (x:=PV.sl 4 b) (by simp[hb1]) (by omega) ?_;(conv=>whnf);refine aneed (by show(_+_)*56≤_;omega) ?_;(conv=>whnf);rw[hfl];exact⟨hk1,(),⟨rfl,rfl,rfl,rfl⟩,trivial⟩
  ·have hk1:=ix_ff h2 (by simp) hk (by omega)
   subst hk1;rw[List.take_length];(conv=>whnf);exact⟨.inr rfl,trivial⟩
end CV
end
