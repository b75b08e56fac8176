/- Contracts, and the law, for every input. No conditions. -/
import Derived.Test.YtdmopjgjhfhfdaaGreatDoorTK1
open Go Go.AM Go.Proofs
set_option maxRecDepth 100000
namespace TK
theorem B_emp (l:Bs):((B l).toList==ByteArray.toList ⟨#[]⟩)=(l==[]):=B_beq l []
theorem word_aux (l:Bs) (W:List Bs) (b:Bool) (h1:APure Tryz.prog 123 [] (.p (.sl 1 (W.map eStr)))) (h2:APure Tryz.prog 122 [.p (.sl 1 (W.map eStr)),.p (.s (B l))] (.p (.b b))):
 APure Tryz.prog 84 [.p (.s (B l))] (.p (.b (!(l==[])&&b))):=by
 refine APure.intro (tyOf_ok Tryz.prog) hmix Tryz.func84 rfl (by rfl) (by kernel_rfl) (by show 1≤_;decide) rfl ?_;(conv=>whnf);refine asplit ?_ ?_<;>intro h<;>conv=>whnf
 ·rw[B_emp]at h
  refine apc h1 ?_;(conv=>whnf);refine apc h2 ?_;(conv=>whnf);exact .inl (pb (by rw[h];rfl))
 ·rw[B_emp]at h
  exact .inl (pb (by rw[h];rfl))
theorem word_spec (l:Bs):APure Tryz.prog 84 [.p (.s (B l))] (.p (.b (wordF l))):=
 word_aux l wordsL _ words_spec (scont_spec wordsL l (by rw[wordsL,split_len];exact Nat.lt_of_le_of_lt (Nat.succ_le_succ (count_le' _ _)) (by decide)))
theorem name_aux (l:Bs) (R:Bool) (hR:nameF l=R) (hl:l.length≤1048576):APure Tryz.prog 104 [.p (.s (B l))] (.p (.b R)):=by
 have hsz:(B l).size=l.length:=B_size l;refine APure.intro (tyOf_ok Tryz.prog) hmix Tryz.func104 rfl (by rfl) (by kernel_rfl) (by show 1≤_;decide) rfl ?_;(conv=>whnf);refine asplit ?_ ?_<;>intro h1<;>conv=>whnf
 ·rw[B_emp]at h1
  exact .inl (pb (by rw[←hR,nameF,h1];rfl))
 rw[B_emp]at h1;refine asplit ?_ ?_<;>intro h2<;>conv=>whnf
 ·rw[hsz]at h2
  have:¬l.length≤16:=by have:=of_decide_eq_true h2;omega
  exact .inl (pb (by rw[←hR,nameF,h1];simp[this]))
 rw[hsz]at h2;have h16:l.length≤16:=by have:=of_decide_eq_false h2;omega
 obtain⟨c,r,rfl⟩:∃c r,l=c::r:=by
  cases l with
  |nil=>simp at h1
  |cons c r=>exact⟨c,r,rfl⟩
 refine asix (k:=0) (c:=c) rfl rfl ?_;(conv=>whnf);have hc:=letter_spec c;have hR2:(letterF c&&(c::r).all partF)=R:=by rw[←hR,nameF];simp only[h1,h16,decide_true,Bool.true_and,Bool.not_false,List.headD_cons]
 clear hR h1 h2;generalize c::r=l at *;generalize letterF c=b at *;refine apc hc ?_;(conv=>whnf);refine asplit ?_ ?_<;>intro h3<;>conv=>whnf
 ·have h3:b=false:=by simpa using h3
  subst h3;exact .inl (pb hR2)
 have h3:b=true:=by simpa using h3
 subst h3;rw[Bool.true_and]at hR2;refine loopS (tyOf_ok _) hmix (by kernel_rfl) l.length [0,18,19] [] (fun k _=>[.p (.s (B l)),.p (.i .i64 (B l).size),.p (.i .i64 (ix k))]) (fun _ _=>[]) (fun k _=>R=(l.drop k).all partF) () ⟨rfl,rfl,rfl,rfl⟩ hR2.symm ?_;intro k s hk hn;(conv=>whnf);refine asplit ?_ ?_<;>intro h4<;>conv=>whnf
 ·have hk1:=ix_tt h4 (by rw[hsz]) hk (by omega)
  obtain⟨d,hd⟩:∃b,l[k]?=some b:=⟨_,List.getElem?_eq_getElem hk1⟩
  refine asix (ix_eq (by omega)) hd ?_;(conv=>whnf);have hp:=part_spec d;rw[drop_cons hd,List.all_cons]at hn;generalize partF d=q at *;refine apc hp ?_;(conv=>whnf);refine asplit ?_ ?_<;>intro h5<;>conv=>whnf
  ·have h5:q=false:=by simpa using h5
   subst h5;exact .inl (pb hn.symm)
  ·have h5:q=true:=by simpa using h5
   subst h5;exact⟨hk1,(),⟨rfl,rfl,rfl,rfl⟩,by rw[hn];rfl⟩
 ·have hk1:=ix_ff h4 (by rw[hsz]) hk (by omega)
  rw[hk1,List.drop_length]at hn;exact .inl (pb hn.symm)
theorem name_spec (l:Bs) (hl:l.length≤1048576):APure Tryz.prog 104 [.p (.s (B l))] (.p (.b (nameF l))):=name_aux l _ rfl hl
theorem low_aux (l:Bs) (a b:Bool) (c:UInt8) (h1:APure Tryz.prog 104 [.p (.s (B l))] (.p (.b a))) (hc:a=true→l[0]?=some c) (b2:Bool) (h2:APure Tryz.prog 105 [.p (vU c)] (.p (.b b2))) (h3:APure Tryz.prog 84 [.p (.s (B l))] (.p (.b b))):
 APure Tryz.prog 62 [.p (.s (B l))] (.p (.b (a&&(b2&&!b)))):=by
 refine APure.intro (tyOf_ok Tryz.prog) hmix Tryz.func62 rfl (by rfl) (by kernel_rfl) (by show 1≤_;decide) rfl ?_;(conv=>whnf);refine apc h1 ?_;(conv=>whnf);refine asplit ?_ ?_<;>intro h<;>conv=>whnf
 ·refine asix (k:=0) rfl (hc h) ?_
  (conv=>whnf);refine apc h2 ?_;(conv=>whnf);refine asplit ?_ ?_<;>intro h'<;>conv=>whnf
  ·refine apc h3 ?_
   (conv=>whnf);exact .inl (pb (by rw[h,h'];rfl))
  ·exact .inl (pb (by rw[h,h'];rfl))
 ·exact .inl (pb (by rw[h];rfl))
theorem name_head {l:Bs} (h:nameF l=true):l[0]?=some (l.headD 0):=by
 cases l with
 |nil=>simp[nameF]at h
 |cons c r=>rfl
theorem low_spec (l:Bs) (hl:l.length≤1048576):APure Tryz.prog 62 [.p (.s (B l))] (.p (.b (lowF l))):=
 low_aux l _ _ _ (name_spec l hl) name_head _ (small_spec _) (word_spec l)
theorem up_aux (l:Bs) (a:Bool) (c:UInt8) (h1:APure Tryz.prog 104 [.p (.s (B l))] (.p (.b a))) (hc:a=true→l[0]?=some c) (b2:Bool) (h2:APure Tryz.prog 121 [.p (vU c)] (.p (.b b2))):
 APure Tryz.prog 85 [.p (.s (B l))] (.p (.b (a&&b2))):=by
 refine APure.intro (tyOf_ok Tryz.prog) hmix Tryz.func85 rfl (by rfl) (by kernel_rfl) (by show 1≤_;decide) rfl ?_;(conv=>whnf);refine apc h1 ?_;(conv=>whnf);refine asplit ?_ ?_<;>intro h<;>conv=>whnf
 ·refine asix (k:=0) rfl (hc h) ?_
  (conv=>whnf);refine apc h2 ?_;(conv=>whnf);exact .inl (pb (by rw[h];rfl))
 ·exact .inl (pb (by rw[h];rfl))
theorem up_spec (l:Bs) (hl:l.length≤1048576):APure Tryz.prog 85 [.p (.s (B l))] (.p (.b (upF l))):=up_aux l _ _ (name_spec l hl) name_head _ (cap_spec _)
theorem idxB_cont (c:UInt8):∀(l:Bs),decide (Lib.indexByte l c≥0)=l.contains c
 | []=>by simp[Lib.indexByte]
 |a::r=>by
  have ih:=idxB_cont c r;have hg:=Lib.indexByte_ge r c;rw[List.contains_cons,Lib.indexByte]
  by_cases h:a=c
  ·subst h;simp
  ·rw[if_neg (by simpa using h),←ih,show(c==a)=false by simpa using fun e=>h e.symm,Bool.false_or]
   by_cases h2:Lib.indexByte r c=-1
   ·rw[if_pos (by simpa using h2),h2]
   ·rw[if_neg (by simpa using h2)]
    have:Lib.indexByte r c≥0:=by omega
    simp only[this,decide_true,decide_eq_true_eq];omega
theorem sign_aux (l:Bs) (b:Bool) (h:l.length=1→APure Tryz.prog 125 [.p (.s ⟨#[40,41,91,93,123,125,44,59,58,61,43,45,42,47,37,60,94,124,95]⟩),.p (.s (B l))] (.p (.b b))):
 APure Tryz.prog 88 [.p (.s (B l))] (.p (.b ((l==[61,62]||l==[45,62])||(decide (l.length=1)&&b)))):=by
 have e1:((B l).toList==ByteArray.toList ⟨#[61,62]⟩)=(l==[61,62]):=B_beq l [61,62];have e2:((B l).toList==ByteArray.toList ⟨#[45,62]⟩)=(l==[45,62]):=B_beq l [45,62];have hsz:(B l).size=l.length:=B_size l;refine APure.intro (tyOf_ok Tryz.prog) hmix Tryz.func88 rfl (by rfl) (by kernel_rfl) (by show 1≤_;decide) rfl ?_;(conv=>whnf);refine asplit ?_ ?_<;>intro h1<;>conv=>whnf
 ·refine ast h1 ?_
  (conv=>whnf);rw[e1]at h1;exact .inl (pb (by rw[h1];rfl))
 refine asplit ?_ ?_<;>intro h2<;>conv=>whnf
 ·rw[e2]at h2
  exact .inl (pb (by rw[h2];simp))
 rw[e1]at h1;rw[e2]at h2;refine asplit ?_ ?_<;>intro h3<;>conv=>whnf
 ·have h3':l.length=1:=by rw[hsz]at h3;have:=eq_of_beq h3;omega
  have hc:=h h3';refine apc hc ?_;(conv=>whnf);exact .inl (pb (by rw[h1,h2,h3'];rfl))
 ·have h3':¬l.length=1:=by intro e;rw[hsz,e]at h3;simp at h3
  exact .inl (pb (by rw[h1,h2];simp[h3']))
theorem sign_spec (l:Bs):APure Tryz.prog 88 [.p (.s (B l))] (.p (.b (signF l))):=by
 refine sign_aux l (signsL.contains (l.headD 0)) fun hl=>?_
 obtain⟨c,rfl⟩:∃c,l=[c]:=by
  match l,hl with
  | [c],_=>exact⟨c,rfl⟩
 have:=containsB_spec signsL c;rw[idxB_cont]at this;exact this
theorem hex_aux (c:UInt8) (i:Int) (h:APure Tryz.prog 176 [.p (.s ⟨#[48,49,50,51,52,53,54,55,56,57,97,98,99,100,101,102]⟩),.p (vU c)] (.p (.i .i64 i))):APure Tryz.prog 151 [.p (vU c)] (.p (.i .i64 i)):=by
 refine APure.intro (tyOf_ok Tryz.prog) hmix Tryz.func151 rfl (by rfl) (by kernel_rfl) (by show 1≤_;decide) rfl ?_;(conv=>whnf);refine apc h ?_;(conv=>whnf);exact .inl rfl
theorem hex_spec (c:UInt8):APure Tryz.prog 151 [.p (vU c)] (.p (.i .i64 (hexF c))):=hex_aux c _ (idxB_spec hexL c)
theorem idxB_lt (c:UInt8):∀(l:Bs),Lib.indexByte l c<l.length
 | []=>by simp[Lib.indexByte]
 |a::r=>by
  have ih:=idxB_lt c r;rw[Lib.indexByte,List.length_cons];split
  ·omega
  ·split
   ·omega
   ·omega
theorem hex_lt (c:UInt8):hexF c≤15:=by have:=idxB_lt c hexL;simp only[hexL,List.length_cons,List.length_nil]at this;rw[hexF];simp only[hexL];omega
end TK
open Go Go.AM Go.Proofs
set_option maxRecDepth 100000
namespace TK
theorem u8_of (m:Int) (h0:0≤m) (h1:m≤255):IntKind.u8.wrap m=((UInt8.ofNat m.toNat).toNat:Int):=by
 obtain⟨n,rfl⟩:∃n:Nat,m=n:=⟨m.toNat,by omega⟩
 have hn:n≤255:=by omega
 rw[Int.toNat_natCast];have:(UInt8.ofNat n).toNat=n:=by rw[UInt8.toNat_ofNat'];omega
 rw[this];unfold IntKind.wrap;simp[IntKind.bits,IntKind.signed];omega
theorem esc_aux (l:Bs) (R:UInt8×Nat) (hR:escF l=R) (hx:∀c,APure Tryz.prog 151 [.p (vU c)] (.p (.i .i64 (hexF c)))):APure Tryz.prog 124 [.p (.s (B l))] (.tup [.p (.i .u8 R.1.toNat),.p (.i .i64 R.2)]):=by
 have hsz:(B l).size=l.length:=B_size l;have fin:∀(a:Int) (b:Int),R.1.toNat=a→R.2=b→AV.tup [.p (.i .u8 a),.p (.i .i64 b)]=.tup [.p (.i .u8 R.1.toNat),.p (.i .i64 R.2)]:=fun a b h1 h2=>by rw[h1,h2]
 refine APure.intro (tyOf_ok Tryz.prog) hmix Tryz.func124 rfl (by rfl) (by kernel_rfl) (by show 1≤_;decide) rfl ?_;(conv=>whnf);refine asplit ?_ ?_<;>intro h1<;>conv=>whnf
 ·rw[B_emp]at h1
  have:=eq_of_beq h1;subst this;exact .inl (fin _ _ (by rw[←hR];rfl) (by rw[←hR];rfl))
 rw[B_emp]at h1
 obtain⟨c,hc0,r,hl⟩:∃c,l[0]?=some c∧∃r,l=c::r:=by
  cases l with
  |nil=>simp at h1
  |cons c r=>exact⟨c,rfl,r,rfl⟩
 rw[hl,escF]at hR;refine asix (k:=0) rfl hc0 ?_;(conv=>whnf);refine asplit ?_ ?_<;>intro h2<;>conv=>whnf
 ·have h2:(bi c==110)=true:=h2
  rw[h2,cond_true]at hR;exact .inl (fin _ _ (by rw[←hR];rfl) (by rw[←hR];rfl))
 have h2:(bi c==110)=false:=h2;rw[h2,cond_false]at hR;refine asplit ?_ ?_<;>intro h3<;>conv=>whnf
 ·refine ast h3 ?_
  (conv=>whnf);have h3:(bi c==34)=true:=h3;rw[h3,Bool.true_or,cond_true]at hR;refine asix (k:=0) rfl hc0 ?_;(conv=>whnf);exact .inl (fin _ _ (by rw[←hR]) (by rw[←hR];rfl))
 have h3:(bi c==34)=false:=h3;rw[h3,Bool.false_or]at hR;refine asplit ?_ ?_<;>intro h4<;>conv=>whnf
 ·have h4:(bi c==92)=true:=h4
  rw[h4,cond_true]at hR;refine asix (k:=0) rfl hc0 ?_;(conv=>whnf);exact .inl (fin _ _ (by rw[←hR]) (by rw[←hR];rfl))
 have h4:(bi c==92)=false:=h4;rw[h4,cond_false]at hR;refine asplit ?_ ?_<;>intro h5<;>conv=>whnf
 ·have h5:(bi c==120)=true:=h5
  rw[h5,cond_true]at hR;refine asplit ?_ ?_<;>intro h6<;>conv=>whnf
  ·rw[hsz]at h6
   have h6:=of_decide_eq_true h6
   have hr:R=(0,0):=by
    rw[←hR]
    match r,hl with
    | [],_=>rfl
    | [_],_=>rfl
    |_::_::_,hl=>rw[hl]at h6;simp at h6;omega
   exact .inl (fin _ _ (by rw[hr];rfl) (by rw[hr];rfl))
  rw[hsz]at h6;have h6:=of_decide_eq_false h6
  obtain⟨h,d,q,hr⟩:∃h d q,r=h::d::q:=by
   match r,hl with
   | [],hl=>rw[hl]at h6;simp at h6
   | [_],hl=>rw[hl]at h6;simp at h6
   |h::d::q,_=>exact⟨h,d,q,rfl⟩
  rw[hr]at hR;rw[escX]at hR;have e1:l[1]?=some h:=by rw[hl,hr];rfl
  have e2:l[2]?=some d:=by rw[hl,hr];rfl
  have x1:=hx h;have x2:=hx d;have g1:-1≤hexF h:=Lib.indexByte_ge _ _;have g2:-1≤hexF d:=Lib.indexByte_ge _ _;have g3:=hex_lt h;have g4:=hex_lt d;generalize hexF h=u at *;generalize hexF d=v at *;refine asix (k:=1) rfl e1 ?_;(conv=>whnf);refine apc x1 ?_;(conv=>whnf);refine asix (k:=2) rfl e2 ?_;(conv=>whnf);refine apc x2 ?_;(conv=>whnf)
  first|refine aneed (.inl (by kernel_rfl)) ?_|refine aneed (by kernel_rfl) ?_
  (conv=>whnf);refine asplit ?_ ?_<;>intro h7<;>conv=>whnf
  ·refine asplit ?_ ?_<;>intro h8<;>conv=>whnf
   ·rw[h7,h8,Bool.and_self,cond_true]at hR
    have h7:=of_decide_eq_true h7;have h8:=of_decide_eq_true h8;have w1:IntKind.i64.wrap (16*u)=16*u:=by rw[wrap64 (by omega) (by omega)]
    have w2:IntKind.i64.wrap (IntKind.i64.wrap (16*u)+v)=16*u+v:=by rw[w1,wrap64 (by omega) (by omega)]
    refine .inl (fin _ _ ?_ (by rw[←hR];rfl));rw[w2,u8_of _ (by omega) (by omega),←hR]
   ·rw[h7,h8,Bool.and_false,cond_false]at hR
    exact .inl (fin _ _ (by rw[←hR];rfl) (by rw[←hR];rfl))
  ·rw[h7,Bool.false_and,cond_false]at hR
   exact .inl (fin _ _ (by rw[←hR];rfl) (by rw[←hR];rfl))
 ·have h5:(bi c==120)=false:=h5
  rw[h5,cond_false]at hR;exact .inl (fin _ _ (by rw[←hR];rfl) (by rw[←hR];rfl))
theorem esc_spec (l:Bs):APure Tryz.prog 124 [.p (.s (B l))] (.tup [.p (.i .u8 (escF l).1.toNat),.p (.i .i64 (escF l).2)]):=esc_aux l _ rfl hex_spec
theorem esc_le (l:Bs):(escF l).2≤l.length:=by
 cases l with
 |nil=>simp[escF]
 |cons c r=>
  rw[escF]
  cases bi c==110 with
  |true=>simp
  |false=>
   cases bi c==34||bi c==92 with
   |true=>simp
   |false=>
    cases bi c==120 with
    |false=>simp
    |true=>
     match r with
     | []=>simp[escX]
     | [_]=>simp[escX]
     |h::d::q=>
      rw[escX];simp only[cond_false,cond_true]
      cases decide (hexF h≥0)&&decide (hexF d≥0)<;>simp
end TK
open Go Go.AM Go.Proofs
set_option maxRecDepth 100000
namespace TK
theorem lit_aux (l:Bs) (hl:l.length≤1048576) (R:Bs×Nat) (hR:litGo (l.drop 1) [] 1=R)
 (he:∀r,APure Tryz.prog 124 [.p (.s (B r))] (.tup [.p (.i .u8 (escF r).1.toNat),.p (.i .i64 (escF r).2)])):
 APure Tryz.prog 87 [.p (.s (B l))] (.tup [.p (.s (B R.1)),.p (.i .i64 R.2)]):=by
 have hsz:(B l).size=l.length:=B_size l;have fin:∀(a:Bs) (b:Int),R.1=a→(R.2:Int)=b→AV.tup [.p (.s (B a)),.p (.i .i64 b)]=.tup [.p (.s (B R.1)),.p (.i .i64 R.2)]:=fun a b h1 h2=>by rw[h1,h2]
 refine APure.intro (tyOf_ok Tryz.prog) hmix Tryz.func87 rfl (by rfl) (by kernel_rfl) (by show 1≤_;decide) rfl ?_;(conv=>whnf);refine lp_nil 4 0 rfl ?_;refine loopS (tyOf_ok _) hmix (by kernel_rfl) l.length [0,4,5] [] (fun _ (s:Bs×Int)=>[.p (.s (B l)),.so 1 (s.1.map vU),.p (.i .i64 s.2)]) (fun _ _=>[]) (fun k s=>∃i:Nat,s.2=i∧k+1≤i∧i≤l.length+1∧s.1.length≤i∧litGo (l.drop i) s.1 i=R) ([],1) ⟨rfl,rfl,rfl,rfl⟩ ⟨1,rfl,by omega,by omega,by simp,hR⟩ ?_;rintro k s hk ⟨i,hi,q1,q2,q3,q4⟩;have hvl:(s.1.map vU).length=s.1.length:=List.length_map _;(conv=>whnf);refine asplit ?_ ?_<;>intro h1<;>conv=>whnf
 ·rw[hi,hsz]at h1
  have hk1:i<l.length:=by have:=of_decide_eq_true h1;omega
  obtain⟨c,hc⟩:∃c,l[i]?=some c:=⟨_,List.getElem?_eq_getElem hk1⟩
  rw[drop_cons hc,litGo]at q4;refine asix hi hc ?_;(conv=>whnf);refine asplit ?_ ?_<;>intro h2<;>conv=>whnf
  ·have h2:(bi c==34)=true:=h2
   rw[h2,cond_true]at q4;refine asplit ?_ ?_<;>intro h3<;>conv=>whnf
   ·rw[hvl]at h3
    rw[show decide (s.1.length>64)=true by have:=of_decide_eq_true h3;exact decide_eq_true (by omega),cond_true]at q4;exact .inl (fin [] _ (by rw[←q4]) (by rw[←q4];rfl))
   ·rw[hvl]at h3
    rw[show decide (s.1.length>64)=false by have:=of_decide_eq_false h3;exact decide_eq_false (by omega),cond_false]at q4;refine abytes ?_;(conv=>whnf);refine .inl (fin s.1 _ (by rw[←q4]) ?_);rw[hi,wrap64 (by omega) (by omega),←q4];simp
  have h2:(bi c==34)=false:=h2;rw[h2,cond_false]at q4;refine asplit ?_ ?_<;>intro h3<;>conv=>whnf
  ·have h3:decide (bi c<32)=true:=h3
   rw[h3,cond_true]at q4;exact .inl (fin [] _ (by rw[←q4]) (by rw[←q4];rfl))
  have h3:decide (bi c<32)=false:=h3;rw[h3,cond_false]at q4;refine asplit ?_ ?_<;>intro h4<;>conv=>whnf
  ·have h4:(bi c != 92)=true:=h4
   rw[h4,cond_true]at q4;refine aneed (by show((s.1.map vU).length+1)*1≤_;rw[hvl];omega) ?_;(conv=>whnf);refine⟨by omega,(s.1++[c],IntKind.i64.wrap (s.2+1)),⟨rfl,?_,rfl,rfl⟩,i+1,by rw[hi,wrap64 (by omega) (by omega)];omega,by omega,by omega,by simp;omega,q4⟩;rw[List.map_append];rfl
  have h4:(bi c != 92)=false:=h4;rw[h4,cond_false]at q4;have w1:IntKind.i64.wrap (s.2+1)=((i+1:Nat):Int):=by rw[hi,wrap64 (by omega) (by omega)];omega
  refine aneed (by rw[w1,hsz];omega) ?_
  have x1:(B l).extract (IntKind.i64.wrap (s.2+1)).toNat (((B l).size:Nat):Int).toNat=B (l.drop (i+1)):=by
   rw[w1,B_ext,B_size,Int.toNat_natCast,Int.toNat_natCast,List.take_of_length_le (by rw[List.length_drop];exact Nat.le_refl _)]
  rw[x1];have hh:=he (l.drop (i+1));have hle:=esc_le (l.drop (i+1));rw[List.length_drop]at hle;generalize escF (l.drop (i+1))=E at *;(conv=>whnf);refine apc hh ?_;(conv=>whnf);refine asplit ?_ ?_<;>intro h5<;>conv=>whnf
  ·rw[show(E.2==0)=true by have:=eq_of_beq h5;simp;omega,cond_true]at q4
   exact .inl (fin [] _ (by rw[←q4]) (by rw[←q4];rfl))
  ·have hne:E.2≠0:=by intro e;rw[e]at h5;simp at h5
   rw[show(E.2==0)=false by simp[hne],cond_false,List.drop_drop]at q4;refine aneed (by show((s.1.map vU).length+1)*1≤_;rw[hvl];omega) ?_;(conv=>whnf);have w2:IntKind.i64.wrap (s.2+(E.2:Int))=((i+E.2:Nat):Int):=by rw[hi,wrap64 (by omega) (by omega)];omega
   refine⟨by omega,(s.1++[E.1],IntKind.i64.wrap (IntKind.i64.wrap (s.2+E.2)+1)),⟨rfl,?_,rfl,rfl⟩,i+E.2+1,by rw[w2,wrap64 (by omega) (by omega)];omega,by omega,by omega,by simp;omega,?_⟩
   ·rw[List.map_append];rfl
   ·rw[←q4,show i+E.2+1=i+1+E.2 by omega]
 ·rw[hi,hsz]at h1
  have hk1:¬i<l.length:=by have:=of_decide_eq_false h1;omega
  rw[List.drop_eq_nil_of_le (by omega),litGo]at q4;exact .inl (fin [] _ (by rw[←q4]) (by rw[←q4];rfl))
theorem lit_spec (l:Bs) (hl:l.length≤1048576):APure Tryz.prog 87 [.p (.s (B l))] (.tup [.p (.s (B (litF l).1)),.p (.i .i64 (litF l).2)]):=lit_aux l hl _ rfl esc_spec
end TK
open Go Go.AM Go.Proofs
set_option maxRecDepth 100000
namespace TK
def atF (k:Int) (i:Nat):Nat:=bif k==0 then 0 else i
def stF (L:Bs):Nat→Int×Bs×Nat
 |0=>(0,[],0)
 |n+1=>bif signF (L.take (n+1)) then (6,L.take (n+1),n+1) else stF L n
def pO:Option UInt8→Bool
 |some d=>partF d
 |none=>false
theorem nextF_cons (L:Bs) (c:UInt8) (r:Bs) (h:L=c::r):nextF L=
 ((bif letterF c then (bif wordF (L.take (spanF partF L)) then (3,L.take (spanF partF L),spanF partF L) else bif lowF (L.take (spanF partF L)) then (1,L.take (spanF partF L),spanF partF L) else bif upF (L.take (spanF partF L)) then (2,L.take (spanF partF L),spanF partF L) else (0,[],0))
 else bif digitF c then (bif pO L[spanF digitF L]? then (0,[],0) else (4,L.take (spanF digitF L),spanF digitF L))
 else bif bi c==34 then (5,litF L)
 else stF L (min 2 L.length)):Int×Bs×Nat):=by
 subst h;unfold nextF;simp only
 cases letterF c with
 |true=>rfl
 |false=>
  cases digitF c with
  |true=>rfl
  |false=>
   cases bi c==34 with
   |true=>rfl
   |false=>
    simp only[cond_false]
    match r with
    | []=>rfl
    |d::r=>
     rw[show min 2 (c::d::r).length=2 by simp,show decide ((c::d::r).length≥2)=true by simp,Bool.true_and];rfl
theorem ext_take (l:Bs) (i n:Nat) (u:Int) (hu:u=((i+n:Nat):Int)):(B l).extract (i:Int).toNat u.toNat=B ((l.drop i).take n):=by
 rw[hu,B_ext,Int.toNat_natCast,Int.toNat_natCast,Nat.add_sub_cancel_left]
theorem next_aux (l:Bs) (i:Nat) (hl:l.length≤1048576) (hi:i<l.length) (R:Int×Bs×Nat) (hR:nextF (l.drop i)=R):
 APure Tryz.prog 57 [.p (.s (B l)),.p (.i .i64 i)] (.tup [.p (.agg [.i .i64 R.1,.s (B R.2.1),.i .i64 (atF R.1 i)]),.p (.i .i64 R.2.2)]):=by
 have hsz:(B l).size=l.length:=B_size l;obtain⟨c,hc⟩:∃c,l[i]?=some c:=⟨_,List.getElem?_eq_getElem hi⟩
 have hd:=drop_cons hc;obtain⟨L,hL⟩:∃L,L=l.drop i:=⟨_,rfl⟩
 have hLl:L.length=l.length-i:=by rw[hL,List.length_drop]
 rw[nextF_cons (l.drop i) c _ hd,←hL]at hR;have fin:∀(k:Int) (t:Bs) (n:Nat) (a b:Int),(k,t,n)=R→a=atF k i→b=n→AV.tup [.p (.agg [.i .i64 k,.s (B t),.i .i64 a]),.p (.i .i64 b)]=.tup [.p (.agg [.i .i64 R.1,.s (B R.2.1),.i .i64 (atF R.1 i)]),.p (.i .i64 R.2.2)]:=fun k t n a b h1 h2 h3=>by subst h1;rw[h2,h3]
 refine APure.intro (tyOf_ok Tryz.prog) hmix Tryz.func57 rfl (by rfl) (by kernel_rfl) (by show 2≤_;decide) rfl ?_;(conv=>whnf);refine asix rfl hc ?_;(conv=>whnf);have p1:=letter_spec c;have p2:=digit_spec c;refine apc p1 ?_;(conv=>whnf);refine asplit ?_ ?_<;>intro h1<;>conv=>whnf
 ·rw[h1,cond_true]at hR
  have ps:=span_spec l i 83 partF hl (by omega) _ rfl part_spec;rw[←hL]at ps;have hn:=spanF_le partF L;generalize spanF partF L=n at *;refine apc ps ?_;(conv=>whnf);have w1:IntKind.i64.wrap ((i:Int)+(n:Int))=((i+n:Nat):Int):=by rw[wrap64 (by omega) (by omega)];omega
  refine aneed (by rw[w1,hsz];omega) ?_;rw[ext_take l i n _ w1,←hL];have t1:=word_spec (L.take n);have t2:=low_spec (L.take n) (by rw[List.length_take];omega);have t3:=up_spec (L.take n) (by rw[List.length_take];omega);generalize L.take n=T at *;(conv=>whnf);refine apc t1 ?_;(conv=>whnf);refine asplit ?_ ?_<;>intro h2<;>conv=>whnf
  ·rw[h2,cond_true]at hR
   exact .inl (fin _ _ _ _ _ hR rfl rfl)
  rw[h2,cond_false]at hR;refine apc t2 ?_;(conv=>whnf);refine asplit ?_ ?_<;>intro h3<;>conv=>whnf
  ·rw[h3,cond_true]at hR
   exact .inl (fin _ _ _ _ _ hR rfl rfl)
  rw[h3,cond_false]at hR;refine apc t3 ?_;(conv=>whnf);refine asplit ?_ ?_<;>intro h4<;>conv=>whnf
  ·rw[h4,cond_true]at hR
   exact .inl (fin _ _ _ _ _ hR rfl rfl)
  rw[h4,cond_false]at hR;exact .inl (fin _ _ _ _ _ hR rfl rfl)
 rw[h1,cond_false]at hR;refine apc p2 ?_;(conv=>whnf);refine asplit ?_ ?_<;>intro h2<;>conv=>whnf
 ·rw[h2,cond_true]at hR
  have ps:=span_spec l i 86 digitF hl (by omega) _ rfl digit_spec;rw[←hL]at ps;have hn:=spanF_le digitF L;generalize spanF digitF L=n at *;refine apc ps ?_;(conv=>whnf);have w1:IntKind.i64.wrap ((i:Int)+(n:Int))=((i+n:Nat):Int):=by rw[wrap64 (by omega) (by omega)];omega
  have hln:L[n]?=l[i+n]?:=by rw[hL,List.getElem?_drop]
  rw[hln]at hR;refine asplit ?_ ?_<;>intro h3<;>conv=>whnf
  ·rw[w1,hsz]at h3
   have hlt:i+n<l.length:=by have:=of_decide_eq_true h3;omega
   obtain⟨d,hd⟩:∃d,l[i+n]?=some d:=⟨_,List.getElem?_eq_getElem hlt⟩
   rw[hd,pO]at hR;refine asix w1 hd ?_;(conv=>whnf);refine apc (part_spec d) ?_;(conv=>whnf);refine asplit ?_ ?_<;>intro h4<;>conv=>whnf
   ·rw[h4,cond_true]at hR
    exact .inl (fin _ _ _ _ _ hR rfl rfl)
   ·rw[h4,cond_false]at hR
    refine aneed (by rw[w1,hsz];omega) ?_;rw[ext_take l i n _ w1,←hL];(conv=>whnf);exact .inl (fin _ _ _ _ _ hR rfl rfl)
  ·rw[w1,hsz]at h3
   have hge:l.length≤i+n:=by have:=of_decide_eq_false h3;omega
   rw[List.getElem?_eq_none hge,pO,cond_false]at hR;refine aneed (by rw[w1,hsz];omega) ?_;rw[ext_take l i n _ w1,←hL];(conv=>whnf);exact .inl (fin _ _ _ _ _ hR rfl rfl)
 rw[h2,cond_false]at hR;refine asplit ?_ ?_<;>intro h3<;>conv=>whnf
 ·have h3:(bi c==34)=true:=h3
  rw[h3,cond_true]at hR;refine aneed (by rw[hsz];omega) ?_
  have x1:(B l).extract (i:Int).toNat (((B l).size:Nat):Int).toNat=B L:=by
   rw[B_ext,B_size,Int.toNat_natCast,Int.toNat_natCast,List.take_of_length_le (by rw[List.length_drop];exact Nat.le_refl _),hL]
  rw[x1];have pl:=lit_spec L (by omega);generalize litF L=E at *;(conv=>whnf);refine apc pl ?_;(conv=>whnf);exact .inl (fin _ _ _ _ _ hR rfl rfl)
 have h3:(bi c==34)=false:=h3;rw[h3,cond_false]at hR;have w0:IntKind.i64.wrap (((B l).size:Int)-(i:Int))=(L.length:Int):=by rw[hsz,wrap64 (by omega) (by omega)];omega
 rw[w0];refine loopS (tyOf_ok _) hmix (by kernel_rfl) 2 [0,1,4,12] [4] (fun _ (s:Int)=>[.p (.s (B l)),.p (.i .i64 i),.ptr 4 0,.p (.i .i64 s)]) (fun _ _=>[.cells [.p (.i .i64 0),.p (.s ⟨#[]⟩),.p (.i .i64 0)]]) (fun k s=>∃n:Nat,s=n∧n+k≤2∧n≤L.length∧stF L n=R) (if (L.length:Int)<2 then (L.length:Int) else 2) ⟨rfl,rfl,rfl,rfl⟩ ⟨min 2 L.length,by split<;>omega,by omega,by omega,hR⟩ ?_;rintro k s hk ⟨n,q1,q2,q3,q4⟩;(conv=>whnf);refine asplit ?_ ?_<;>intro h4<;>conv=>whnf
 ·have hn0:0<n:=by have:=of_decide_eq_true h4;omega
  obtain⟨m,rfl⟩:∃m,n=m+1:=⟨n-1,by omega⟩
  have w1:IntKind.i64.wrap ((i:Int)+s)=((i+(m+1):Nat):Int):=by rw[q1,wrap64 (by omega) (by omega)];omega
  rw[stF]at q4;refine aneed (by rw[w1,hsz];omega) ?_;rw[ext_take l i (m+1) _ w1,←hL];(conv=>whnf);refine apc (sign_spec (L.take (m+1))) ?_;(conv=>whnf);refine asplit ?_ ?_<;>intro h5<;>conv=>whnf
  ·rw[h5,cond_true]at q4
   refine aneed (by rw[w1,hsz];omega) ?_;rw[ext_take l i (m+1) _ w1,←hL];(conv=>whnf);exact .inl (fin _ _ _ _ _ q4 rfl q1)
  ·rw[h5,cond_false]at q4
   exact⟨by omega,IntKind.i64.wrap (s-1),⟨rfl,rfl,rfl,rfl⟩,m,by rw[q1,wrap64 (by omega) (by omega)];omega,by omega,by omega,q4⟩
 ·have hn0:n=0:=by have:=of_decide_eq_false h4;omega
  subst hn0;exact .inl (fin _ [] 0 _ _ q4 rfl rfl)
theorem next_spec (l:Bs) (i:Nat) (hl:l.length≤1048576) (hi:i<l.length):
 APure Tryz.prog 57 [.p (.s (B l)),.p (.i .i64 i)] (.tup [.p (eTk ⟨(nextF (l.drop i)).1,(nextF (l.drop i)).2.1,atF (nextF (l.drop i)).1 i⟩),.p (.i .i64 (nextF (l.drop i)).2.2)]):=next_aux l i hl hi _ rfl
end TK
open Go Go.AM Go.Proofs
set_option maxRecDepth 100000
namespace TK
theorem lit_le:∀(n:Nat) (r v:Bs) (i:Nat),r.length≤n→(litGo r v i).2≤i+r.length
 |n,[],v,i,_=>by rw[litGo];simp
 |0,_::_,v,i,h=>by simp at h
 |n+1,c::r,v,i,h=>by
  simp only[List.length_cons]at h;rw[litGo,List.length_cons]
  cases bi c==34 with
  |true=>rw[cond_true];cases decide (v.length>64)<;>simp<;>omega
  |false=>
   rw[cond_false]
   cases decide (bi c<32) with
   |true=>simp
   |false=>
    rw[cond_false]
    cases bi c != 92 with
    |true=>rw[cond_true];have:=lit_le n r (v++[c]) (i+1) (by omega);omega
    |false=>
     rw[cond_false]
     cases (escF r).2==0 with
     |true=>simp
     |false=>
      rw[cond_false];have h1:=esc_le r;have:=lit_le n (r.drop (escF r).2) (v++[(escF r).1]) (i+(escF r).2+1) (by rw[List.length_drop];omega);rw[List.length_drop]at this;omega
theorem stF_le (L:Bs):∀n,(stF L n).2.2≤n∧((stF L n).2.2≠0→(stF L n).1=6∧(stF L n).2.1=L.take (stF L n).2.2∧signF (L.take (stF L n).2.2)=true)
 |0=>by simp[stF]
 |n+1=>by
  rw[stF]
  cases h:signF (L.take (n+1)) with
  |true=>simp[h]
  |false=>rw[cond_false];have:=stF_le L n;exact⟨by omega,this.2⟩
theorem next_le (L:Bs):(nextF L).2.2≤L.length∧((nextF L).2.2≠0→(nextF L).1≠0):=by
 cases L with
 |nil=>simp[nextF]
 |cons c r=>
  rw[nextF_cons (c::r) c r rfl];have h1:=spanF_le partF (c::r);have h2:=spanF_le digitF (c::r);have h3:=lit_le _ r [] 1 (Nat.le_refl _);have h4:=stF_le (c::r) (min 2 (c::r).length)
  cases letterF c with
  |true=>
   simp only[cond_true]
   cases wordF _ with
   |true=>exact⟨h1,by simp⟩
   |false=>
    cases lowF _ with
    |true=>exact⟨h1,by simp⟩
    |false=>
     cases upF _ with
     |true=>exact⟨h1,by simp⟩
     |false=>exact⟨by simp,by simp⟩
  |false=>
   simp only[cond_false]
   cases digitF c with
   |true=>
    simp only[cond_true]
    cases pO _ with
    |true=>exact⟨by simp,by simp⟩
    |false=>exact⟨h2,by simp⟩
   |false=>
    simp only[cond_false]
    cases bi c==34 with
    |true=>exact⟨by simp only[cond_true,litF,List.drop_one,List.tail_cons,List.length_cons];omega,by simp⟩
    |false=>
     simp only[cond_false];refine⟨by omega,fun h=>?_⟩;rw[(h4.2 h).1];decide
def rdOut:List Tk×Option Nat→List Tk×Int×Int
 |(o,none)=>(o,0,0)
 |(_,some i)=>([],(i:Int),10)
theorem read_aux (l:Bs) (hl:l.length≤4000) (R:List Tk×Option Nat) (hR:readGo l 0 []=R):
 APure Tryz.prog 41 [.p (.s (B l))] (.tup [.p (.sl 3 ((rdOut R).1.map eTk)),.p (.i .i64 (rdOut R).2.1),.p (.i .i64 (rdOut R).2.2)]):=by
 have hsz:(B l).size=l.length:=B_size l;refine APure.intro (tyOf_ok Tryz.prog) hmix Tryz.func41 rfl (by rfl) (by kernel_rfl) (by show 1≤_;decide) rfl ?_;(conv=>whnf);refine asf (by rw[hsz];exact decide_eq_false (by omega)) ?_;(conv=>whnf);refine lp_nil 5 2 rfl ?_;refine loopS (tyOf_ok _) hmix (by kernel_rfl) l.length [0,5,6] [] (fun _ (s:List Tk×Int)=>[.p (.s (B l)),.so 3 (s.1.map eTk),.p (.i .i64 s.2)]) (fun _ _=>[]) (fun k s=>∃i:Nat,s.2=i∧k≤i∧i≤l.length∧s.1.length≤i∧readGo (l.drop i) i s.1=R) ([],0) ⟨rfl,rfl,rfl,rfl⟩ ⟨0,rfl,by omega,by omega,by simp,hR⟩ ?_;rintro k s hk ⟨i,hi,q1,q2,q3,q4⟩;have hvl:(s.1.map eTk).length=s.1.length:=List.length_map _;(conv=>whnf);refine asplit ?_ ?_<;>intro h1<;>conv=>whnf
 ·rw[hi,hsz]at h1
  have hk1:i<l.length:=by have:=of_decide_eq_true h1;omega
  obtain⟨c,hc⟩:∃c,l[i]?=some c:=⟨_,List.getElem?_eq_getElem hk1⟩
  have hd:=drop_cons hc;have w1:IntKind.i64.wrap (s.2+1)=((i+1:Nat):Int):=by rw[hi,wrap64 (by omega) (by omega)];omega
  refine asix hi hc ?_;(conv=>whnf)
  have blank:blankF c=true→readGo (l.drop (i+1)) (i+1) s.1=R:=by
   intro hb;rw[hd,readGo,hb,cond_true]at q4;exact q4
  refine asplit ?_ ?_<;>intro h2<;>conv=>whnf
  ·exact⟨by omega,(s.1,IntKind.i64.wrap (s.2+1)),⟨rfl,rfl,rfl,rfl⟩,i+1,w1,by omega,by omega,Nat.le_succ_of_le q3,blank (by show((bi c==32||bi c==9)||bi c==10)=true;rw[show(bi c==32)=true from h2];rfl)⟩
  refine asplit ?_ ?_<;>intro h3<;>conv=>whnf
  ·exact⟨by omega,(s.1,IntKind.i64.wrap (s.2+1)),⟨rfl,rfl,rfl,rfl⟩,i+1,w1,by omega,by omega,Nat.le_succ_of_le q3,blank (by show((bi c==32||bi c==9)||bi c==10)=true;rw[show(bi c==9)=true from h3];simp)⟩
  refine asplit ?_ ?_<;>intro h4<;>conv=>whnf
  ·exact⟨by omega,(s.1,IntKind.i64.wrap (s.2+1)),⟨rfl,rfl,rfl,rfl⟩,i+1,w1,by omega,by omega,Nat.le_succ_of_le q3,blank (by show((bi c==32||bi c==9)||bi c==10)=true;rw[show(bi c==10)=true from h4];simp)⟩
  have hb:blankF c=false:=by
   show((bi c==32||bi c==9)||bi c==10)=false;rw[show(bi c==32)=false from h2,show(bi c==9)=false from h3,show(bi c==10)=false from h4];rfl
  refine asplit ?_ ?_<;>intro h5<;>conv=>whnf
  ·have h5:(bi c==35)=true:=h5
   have ps:∀n,spanF nlF (l.drop i)=n→APure Tryz.prog 55 [.p (.s (B l)),.p (.i .i64 s.2),.fn 56 [] []] (.p (.i .i64 n)):=fun n hn=>by
    rw[hi];exact span_spec l i 56 nlF (by omega) (by omega) n hn nl_spec
   have hn:=spanF_le nlF (l.drop i)
   have e1:spanF nlF (l.drop i)=spanF nlF (l.drop (i+1))+1:=by
    rw[hd,spanF,show nlF c=true by show(bi c != 10)=true;rw[eq_of_beq h5];rfl];rfl
   rw[hd,readGo,hb,cond_false,h5,cond_true,←e1,List.drop_drop]at q4;have hdr:i+1+spanF nlF (l.drop (i+1))=i+spanF nlF (l.drop i):=by omega
   rw[hdr]at q4;rw[List.length_drop]at hn;generalize spanF nlF (l.drop i)=n at *;refine apc (ps n rfl) ?_;(conv=>whnf);exact⟨by omega,(s.1,IntKind.i64.wrap (s.2+n)),⟨rfl,rfl,rfl,rfl⟩,i+n,by rw[hi,wrap64 (by omega) (by omega)];omega,by omega,by omega,Nat.le_trans q3 (by omega),q4⟩
  have h5:(bi c==35)=false:=h5;have pn:=next_spec l i (by omega) hk1;have hle:=next_le (l.drop i);rw[hd,readGo,←hd,hb,cond_false,h5,cond_false]at q4;simp only[List.drop_drop]at q4;rw[←hi]at pn;rw[List.length_drop]at hle;generalize nextF (l.drop i)=x at *;refine apc pn ?_;(conv=>whnf);refine asplit ?_ ?_<;>intro h6<;>conv=>whnf
  ·rw[show(x.2.2==0)=true by have:=eq_of_beq h6;simp;omega,cond_true]at q4
   exact .inl (by rw[←q4,hi];rfl)
  ·have hne:x.2.2≠0:=by intro e;rw[e]at h6;simp at h6
   rw[show(x.2.2==0)=false by simp[hne],cond_false]at q4;refine aneed (by show((s.1.map eTk).length+1)*32≤_;rw[hvl];omega) ?_;(conv=>whnf);refine⟨by omega,(s.1++[⟨x.1,x.2.1,atF x.1 i⟩],IntKind.i64.wrap (s.2+x.2.2)),⟨rfl,?_,rfl,rfl⟩,i+x.2.2,by rw[hi,wrap64 (by omega) (by omega)];omega,by omega,by omega,by simp;omega,?_⟩
   ·rw[List.map_append];rfl
   ·rw[←q4,show atF x.1 i=i by rw[atF,show(x.1==0)=false by simpa using hle.2 hne];rfl,show i+1+(x.2.2-1)=i+x.2.2 by omega]
 ·rw[hi,hsz]at h1
  have hk1:¬i<l.length:=by have:=of_decide_eq_false h1;omega
  rw[List.drop_eq_nil_of_le (by omega),readGo]at q4;exact .inl (by rw[←q4];rfl)
theorem read_big (l:Bs) (hl:4000<l.length):APure Tryz.prog 41 [.p (.s (B l))] (.tup [.p (.sl 3 []),.p (.i .i64 0),.p (.i .i64 2)]):=by
 have hsz:(B l).size=l.length:=B_size l;refine APure.intro (tyOf_ok Tryz.prog) hmix Tryz.func41 rfl (by rfl) (by kernel_rfl) (by show 1≤_;decide) rfl ?_;(conv=>whnf);refine ast (by rw[hsz];exact decide_eq_true (by omega)) ?_;(conv=>whnf);exact .inl rfl
def vRead (x:List Tk×Nat×Int):AV:=.tup [.p (.sl 3 (x.1.map eTk)),.p (.i .i64 x.2.1),.p (.i .i64 x.2.2)]
theorem read_spec (l:Bs):APure Tryz.prog 41 [.p (.s (B l))] (vRead (readF l)):=by
 rw[readF]
 by_cases h:l.length>4000
 ·rw[decide_eq_true h,cond_true];exact read_big l h
 ·rw[decide_eq_false h,cond_false]
  have:=read_aux l (by omega) _ rfl
  match hq:readGo l 0 [] with
  |(o',none)=>rw[hq]at this;exact this
  |(_,some i)=>rw[hq]at this;exact this
end TK
