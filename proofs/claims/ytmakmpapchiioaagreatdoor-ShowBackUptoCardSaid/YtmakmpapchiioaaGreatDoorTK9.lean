/-
  DERIVED. Contracts of functions that the law reaches, and the law, for every input. No conditions.
-/
import Derived.Test.YtmakmpapchiioaaGreatDoorTK4
open Go Go.AM Go.Proofs
set_option maxRecDepth 100000
namespace TK
theorem abytes' {xs:List PV} {l:Bs} {K:PV→Prop} (h:xs=l.map vU) (hk:K (.s (B l))):ABytes xs K:=by subst h;exact abytes hk
theorem quote_aux (l:Bs) (hl:l.length≤64):APure Tryz.prog 134 [.p (.s (B l))] (.tup [.p (.s (B (quoteL l))),.p (.i .i64 0)]):=by
 have hsz:(B l).size=l.length:=B_size l
 have hQ:quoteL l=34::(l.flatMap qbF++[34]):=rfl
 generalize quoteL l=Q at *
 refine APure.intro (tyOf_ok Tryz.prog) hmix Tryz.func134 rfl (by rfl) (by kernel_rfl) (by show 1≤_;decide) rfl ?_
 conv=>whnf
 refine asf (by rw[hsz];exact decide_eq_false (by omega)) ?_
 conv=>whnf
 refine loopS (tyOf_ok _) hmix (by kernel_rfl) l.length [0,4,12,13] [] (fun k (v:Bs)=>[.p (.s (B l)),.so 1 (v.map vU),.p (.i .i64 (B l).size),.p (.i .i64 (ix k))]) (fun _ _=>[]) (fun k v=>v=34::(l.take k).flatMap qbF∧v.length≤1+4*k) [34] ⟨rfl,rfl,rfl,rfl⟩ ⟨rfl,by decide⟩ ?_
 rintro k v hk ⟨q1,q2⟩
 have hvl:(v.map vU).length=v.length:=List.length_map _
 conv=>whnf
 refine asplit ?_ ?_<;>intro h1<;>conv=>whnf
 ·have hk1:=ix_tt h1 (by rw[hsz]) hk (by omega)
  obtain⟨c,hc⟩:∃c,l[k]?=some c:=⟨_,List.getElem?_eq_getElem hk1⟩
  have hq:∀y,qbF c=y→y.length≤4→v++y=34::(l.take (k+1)).flatMap qbF∧(v++y).length≤1+4*(k+1):=by
   intro y hy hyl
   refine⟨?_,by rw[List.length_append];omega⟩
   rw[q1,take_snoc hc,List.flatMap_append,←hy];simp
  rw[qbF]at hq
  refine asix (ix_eq (by omega)) hc ?_
  conv=>whnf
  have ne:∀n:Nat,n≤4→((v.map vU).length+n)*1≤140737488355328:=by intro n hn;rw[hvl];omega
  refine asplit ?_ ?_<;>intro h2<;>conv=>whnf
  ·refine aneed (ne 2 (by omega)) ?_
   conv=>whnf
   refine⟨hk1,v++[92,c],⟨rfl,?_,rfl,rfl⟩,hq _ (by rw[show(bi c==34)=true from h2];rfl) (by simp)⟩
   rw[List.map_append];rfl
  have h2:(bi c==34)=false:=h2
  refine asplit ?_ ?_<;>intro h3<;>conv=>whnf
  ·refine aneed (ne 2 (by omega)) ?_
   conv=>whnf
   refine⟨hk1,v++[92,c],⟨rfl,?_,rfl,rfl⟩,hq _ (by rw[h2,show(bi c==92)=true from h3];rfl) (by simp)⟩
   rw[List.map_append];rfl
  have h3:(bi c==92)=false:=h3
  rw[h2,h3,Bool.false_or,cond_false]at hq
  refine asplit ?_ ?_<;>intro h4<;>conv=>whnf
  ·refine aneed (ne 2 (by omega)) ?_
   conv=>whnf
   refine⟨hk1,v++[92,110],⟨rfl,?_,rfl,rfl⟩,hq _ (by rw[show(bi c==10)=true from h4];rfl) (by simp)⟩
   rw[List.map_append];rfl
  have h4:(bi c==10)=false:=h4
  rw[h4,cond_false]at hq
  have hex:(decide (bi c≥32)&&decide (bi c≤126))=false→v++[92,120,hexd (c.toNat/16),hexd (c.toNat % 16)]=34::(l.take (k+1)).flatMap qbF∧(v++[92,120,hexd (c.toNat/16),hexd (c.toNat % 16)]).length≤1+4*(k+1):=by
   intro h;exact hq _ (by rw[h];rfl) (by simp)
  have hcl:c.toNat<256:=c.toNat_lt
  have d1:IntKind.u8.wrap ((c.toNat:Int).tdiv 16)=((c.toNat/16:Nat):Int):=by
   have:(c.toNat:Int).tdiv 16=((c.toNat/16:Nat):Int):=rfl
   rw[this];unfold IntKind.wrap;simp[IntKind.bits,IntKind.signed];omega
  have d2:(c.toNat:Int).tmod 16=((c.toNat % 16:Nat):Int):=rfl
  have g:∀n:Nat,n<16→hexL[n]?=some (hexd n):=by
   intro n hn
   rw[hexd,List.getD_eq_getElem?_getD,List.getElem?_eq_getElem (show n<hexL.length from hn)];rfl
  refine asplit ?_ ?_<;>intro h5<;>conv=>whnf
  ·refine asplit ?_ ?_<;>intro h6<;>conv=>whnf
   ·refine aneed (ne 1 (by omega)) ?_
    conv=>whnf
    refine⟨hk1,v++[c],⟨rfl,?_,rfl,rfl⟩,hq _ (by rw[show decide (bi c≥32)=true from h5,show decide (bi c≤126)=true from h6];rfl) (by simp)⟩
    rw[List.map_append];rfl
   ·  refine aneed ⟨rfl,by decide⟩ ?_
      conv=>whnf
      refine asix (l:=hexL) d1 (g _ (by omega)) ?_
      conv=>whnf
      refine aneed ⟨rfl,by decide⟩ ?_
      conv=>whnf
      refine asix (l:=hexL) d2 (g _ (by omega)) ?_
      conv=>whnf
      refine aneed (ne 4 (by omega)) ?_
      conv=>whnf
      refine aneed (by kernel_rfl) ?_
      conv=>whnf
      refine⟨hk1,v++[92,120,hexd (c.toNat/16),hexd (c.toNat % 16)],⟨rfl,?_,rfl,rfl⟩,hex (by rw[show decide (bi c≤126)=false from h6,Bool.and_false])⟩
      rw[List.map_append];rfl
  ·  refine aneed ⟨rfl,by decide⟩ ?_
     conv=>whnf
     refine asix (l:=hexL) d1 (g _ (by omega)) ?_
     conv=>whnf
     refine aneed ⟨rfl,by decide⟩ ?_
     conv=>whnf
     refine asix (l:=hexL) d2 (g _ (by omega)) ?_
     conv=>whnf
     refine aneed (ne 4 (by omega)) ?_
     conv=>whnf
     refine aneed (by kernel_rfl) ?_
     conv=>whnf
     refine⟨hk1,v++[92,120,hexd (c.toNat/16),hexd (c.toNat % 16)],⟨rfl,?_,rfl,rfl⟩,hex (by rw[show decide (bi c≥32)=false from h5,Bool.false_and])⟩
     rw[List.map_append];rfl
 ·have hk1:=ix_ff h1 (by rw[hsz]) hk (by omega)
  rw[hk1,List.take_length]at q1
  refine aneed (by show((v.map vU).length+1)*1≤_;rw[hvl];omega) ?_
  conv=>whnf
  refine abytes' (l:=Q) (by rw[hQ,←List.cons_append,←q1,List.map_append];rfl) ?_
  conv=>whnf
  exact .inl rfl
theorem quote_big (l:Bs) (hl:64<l.length):APure Tryz.prog 134 [.p (.s (B l))] (.tup [.p (.s (B [])),.p (.i .i64 2)]):=by
 have hsz:(B l).size=l.length:=B_size l
 refine APure.intro (tyOf_ok Tryz.prog) hmix Tryz.func134 rfl (by rfl) (by kernel_rfl) (by show 1≤_;decide) rfl ?_
 conv=>whnf
 refine ast (by rw[hsz];exact decide_eq_true (by omega)) ?_
 conv=>whnf
 exact .inl rfl
def quoteF (l:Bs):Bs×Int:=bif decide (l.length>64) then ([],2) else (quoteL l,0)
theorem quote_spec (l:Bs):APure Tryz.prog 134 [.p (.s (B l))] (.tup [.p (.s (B (quoteF l).1)),.p (.i .i64 (quoteF l).2)]):=by
 rw[quoteF]
 by_cases h:l.length>64
 ·rw[decide_eq_true h,cond_true];exact quote_big l h
 ·rw[decide_eq_false h,cond_false];exact quote_aux l (by omega)
end TK
open Go Go.AM Go.Proofs
set_option maxRecDepth 100000
open Go Go.AM Go.Proofs
set_option maxRecDepth 100000
namespace TK
theorem hexd_back:∀n:Nat,n<16→hexF (hexd n)=n:=by decide
theorem c256 (P:UInt8→Prop) (h:∀n:Nat,n<256→P (UInt8.ofNat n)) (c:UInt8):P c:=by
 have:=h c.toNat c.toNat_lt
 rwa [UInt8.ofNat_toNat]at this
theorem esc_hex (c:UInt8) (X:Bs):escF (120::hexd (c.toNat/16)::hexd (c.toNat % 16)::X)=(c,3):=by
 have hl:=c.toNat_lt
 rw[escF,show(bi 120==110)=false by decide,show(bi 120==34||bi 120==92)=false by decide,show(bi 120==120)=true by decide,cond_false,cond_false,cond_true,escX,hexd_back _ (by omega),hexd_back _ (by omega)]
 rw[show(decide (((c.toNat/16:Nat):Int)≥0)&&decide (((c.toNat % 16:Nat):Int)≥0))=true by rw[decide_eq_true (by omega),decide_eq_true (by omega)];rfl,cond_true]
 rw[show(16*((c.toNat/16:Nat):Int)+((c.toNat % 16:Nat):Int)).toNat=c.toNat by omega,UInt8.ofNat_toNat]
theorem bi_of {c:UInt8} {m:UInt8} (h:(bi c==bi m)=true):c=m:=by
 have:=eq_of_beq h
 exact UInt8.toNat.inj (by unfold bi at this;omega)
theorem lit_one (c:UInt8) (X v:Bs) (i:Nat):litGo (qbF c++X) v i=litGo X (v++[c]) (i+(qbF c).length):=by
 rw[qbF]
 cases h1:(bi c==34||bi c==92) with
 |true=>
  rw[cond_true]
  show litGo (92::c::X) v i=_
  have h110:(bi c==110)=false:=by
   rcases Bool.or_eq_true_iff.1 h1 with h|h
   ·rw[eq_of_beq h];rfl
   ·rw[eq_of_beq h];rfl
  have he:escF (c::X)=(c,1):=by rw[escF,h110,cond_false,h1,cond_true]
  rw[litGo,show(bi 92==34)=false by decide,cond_false,show decide (bi 92<32)=false by decide,cond_false,show(bi 92 != 92)=false by decide,cond_false,he]
  rfl
 |false=>
  rw[cond_false]
  have h34:(bi c==34)=false:=by cases h:bi c==34 with|false=>rfl|true=>rw[h]at h1;cases h1
  have h92:(bi c==92)=false:=by cases h:bi c==92 with|false=>rfl|true=>rw[h,Bool.or_true]at h1;cases h1
  cases h2:bi c==10 with
  |true=>
   rw[cond_true]
   have:c=10:=bi_of h2
   subst this
   show litGo (92::110::X) v i=_
   have he:escF (110::X)=(10,1):=by rw[escF,show(bi 110==110)=true by decide,cond_true]
   rw[litGo,show(bi 92==34)=false by decide,cond_false,show decide (bi 92<32)=false by decide,cond_false,show(bi 92 != 92)=false by decide,cond_false,he]
   rfl
  |false=>
   rw[cond_false]
   cases h3:(decide (bi c≥32)&&decide (bi c≤126)) with
   |true=>
    rw[cond_true]
    have h32:decide (bi c<32)=false:=by
     have:=of_decide_eq_true (Bool.and_eq_true_iff.1 h3).1
     exact decide_eq_false (by omega)
    show litGo (c::X) v i=_
    rw[litGo,h34,cond_false,h32,cond_false,show(bi c != 92)=true by rw[bne,h92];rfl,cond_true]
    rfl
   |false=>
    rw[cond_false]
    show litGo (92::120::hexd (c.toNat/16)::hexd (c.toNat % 16)::X) v i=_
    rw[litGo,show(bi 92==34)=false by decide,cond_false,show decide (bi 92<32)=false by decide,cond_false,show(bi 92 != 92)=false by decide,cond_false,esc_hex]
    rfl
theorem lit_quote:∀(s v rest:Bs) (i:Nat),v.length+s.length≤64→litGo (s.flatMap qbF++34::rest) v i=(v++s,i+(s.flatMap qbF).length+1)
 | [],v,rest,i,h=>by
   simp only[List.flatMap_nil,List.nil_append]
   rw[litGo,show(bi 34==34)=true by decide,cond_true,decide_eq_false (by simp at h;omega),cond_false]
   simp
 |c::r,v,rest,i,h=>by
  rw[List.flatMap_cons,List.append_assoc,lit_one,lit_quote r (v++[c]) rest _ (by simp at h ⊢;omega)]
  simp[Nat.add_assoc]
theorem qb_len (c:UInt8):(qbF c).length≤4:=by
 rw[qbF]
 cases (bi c==34||bi c==92) with
 |true=>simp
 |false=>
  cases bi c==10 with
  |true=>simp
  |false=>cases (decide (bi c≥32)&&decide (bi c≤126))<;>simp
theorem qs_len:∀(s:Bs),(s.flatMap qbF).length≤4*s.length
 | []=>by simp
 |c::r=>by have:=qs_len r;have:=qb_len c;rw[List.flatMap_cons,List.length_append,List.length_cons];omega
theorem quote_len (s:Bs):(quoteL s).length≤4*s.length+2:=by
 have:=qs_len s
 rw[quoteL,List.length_cons,List.length_append,List.length_cons,List.length_nil];omega
theorem next_quote (s rest:Bs) (h:s.length≤64):nextF (quoteL s++rest)=(5,s,(quoteL s).length):=by
 rw[nextF_cons _ 34 (s.flatMap qbF++34::rest) (by simp[quoteL]),show letterF 34=false by decide,show digitF 34=false by decide,show(bi 34==34)=true by decide,cond_false,cond_false,cond_true,litF]
 rw[show(quoteL s++rest).drop 1=s.flatMap qbF++34::rest by simp[quoteL],lit_quote s [] rest 1 (by simpa using h)]
 simp[quoteL];omega
end TK
