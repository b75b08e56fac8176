/- Contracts, and the law, for every input. No conditions. -/
import Derived.Test.YtdmopjgjhfhfdaaGreatDoorMD0
import Derived.Test.YtdmopjgjhfhfdaaGreatDoorMD2
import Derived.Test.YtdmopjgjhfhfdaaGreatDoorMD4
import Derived.Test.YtdmopjgjhfhfdaaGreatDoorMD6
import Derived.Test.YtdmopjgjhfhfdaaGreatDoorMD8
import Derived.Test.YtdmopjgjhfhfdaaGreatDoorME5
open Go Go.AM Go.Proofs TK
set_option maxRecDepth 100000
namespace MN
theorem deep_all:∀n:Nat,n<80→deepE n=deepQ n
 |0,_=>deep_0
 |1,_=>deep_1
 |2,_=>deep_2
 |3,_=>deep_3
 |4,_=>deep_4
 |5,_=>deep_5
 |6,_=>deep_6
 |7,_=>deep_7
 |8,_=>deep_8
 |9,_=>deep_9
 |10,_=>deep_10
 |11,_=>deep_11
 |12,_=>deep_12
 |13,_=>deep_13
 |14,_=>deep_14
 |15,_=>deep_15
 |16,_=>deep_16
 |17,_=>deep_17
 |18,_=>deep_18
 |19,_=>deep_19
 |20,_=>deep_20
 |21,_=>deep_21
 |22,_=>deep_22
 |23,_=>deep_23
 |24,_=>deep_24
 |25,_=>deep_25
 |26,_=>deep_26
 |27,_=>deep_27
 |28,_=>deep_28
 |29,_=>deep_29
 |30,_=>deep_30
 |31,_=>deep_31
 |32,_=>deep_32
 |33,_=>deep_33
 |34,_=>deep_34
 |35,_=>deep_35
 |36,_=>deep_36
 |37,_=>deep_37
 |38,_=>deep_38
 |39,_=>deep_39
 |40,_=>deep_40
 |41,_=>deep_41
 |42,_=>deep_42
 |43,_=>deep_43
 |44,_=>deep_44
 |45,_=>deep_45
 |46,_=>deep_46
 |47,_=>deep_47
 |48,_=>deep_48
 |49,_=>deep_49
 |50,_=>deep_50
 |51,_=>deep_51
 |52,_=>deep_52
 |53,_=>deep_53
 |54,_=>deep_54
 |55,_=>deep_55
 |56,_=>deep_56
 |57,_=>deep_57
 |58,_=>deep_58
 |59,_=>deep_59
 |60,_=>deep_60
 |61,_=>deep_61
 |62,_=>deep_62
 |63,_=>deep_63
 |64,_=>deep_64
 |65,_=>deep_65
 |66,_=>deep_66
 |67,_=>deep_67
 |68,_=>deep_68
 |69,_=>deep_69
 |70,_=>deep_70
 |71,_=>deep_71
 |72,_=>deep_72
 |73,_=>deep_73
 |74,_=>deep_74
 |75,_=>deep_75
 |76,_=>deep_76
 |77,_=>deep_77
 |78,_=>deep_78
 |79,_=>deep_79
 |n+80,h=>absurd h (by omega)
end MN
open Go Go.AM Go.Proofs TK
set_option maxRecDepth 100000
namespace MN
def witF (k n:Int):Int:=k % n
theorem tmod_emod (k n:Int) (hn:0<n):(bif decide (k.tmod n<0) then k.tmod n+n else k.tmod n)=k % n:=by
 have h1:=Int.emod_nonneg k (show n≠0 by omega);have h2:=Int.emod_lt_of_pos k hn;rw[Int.tmod_eq_emod]
 by_cases h:0≤k∨n ∣ k
 ·have e:k % n-((0:Nat):Int)=k % n:=by omega
  rw[if_pos h,e,decide_eq_false (by omega)];rfl
 ·rw[if_neg h,decide_eq_true (by omega),cond_true];omega
theorem tmod_lt (k n:Int) (hn:0<n):-n<k.tmod n∧k.tmod n<n:=by
 have h1:=Int.emod_nonneg k (show n≠0 by omega);have h2:=Int.emod_lt_of_pos k hn;rw[Int.tmod_eq_emod]
 by_cases h:0≤k∨n ∣ k
 ·rw[if_pos h];omega
 ·rw[if_neg h]
  have h3:k % n≠0:=fun e=>h (.inr (Int.dvd_of_emod_eq_zero e));omega
theorem restN_spec (k n:Int) (hn:0<n) (h2:n≤1000000):APure Tryz.prog 31 [.p (.i .i64 k),.p (.i .i64 n)] (.p (.i .i64 (witF k n))):=by
 have h3:=tmod_emod k n hn;have h4:=tmod_lt k n hn;unfold witF;refine APure.intro (tyOf_ok Tryz.prog) hmix Tryz.func31 rfl (by rfl) (by kernel_rfl) (by show 2≤_;decide) rfl ?_;(conv=>whnf);refine aneed (show IntKind.i64=IntKind.i64∧n≠0 from⟨rfl,by omega⟩) ?_;(conv=>whnf);refine asplit ?_ ?_<;>intro h1<;>conv=>whnf
 ·replace h1:decide (k.tmod n<0)=true:=h1
  rw[h1,cond_true]at h3;refine .inl (pi ?_);rw[←h3];exact wrap64 (by omega) (by omega)
 ·replace h1:decide (k.tmod n<0)=false:=h1
  rw[h1,cond_false]at h3;exact .inl (pi h3)
theorem within_spec (k n:Int) (hn:0<n) (h2:n≤1000000):APure Tryz.prog 16 [.p (.i .i64 k),.p (.i .i64 n)] (.p (.i .i64 (witF k n))):=by
 have h:=restN_spec k n hn h2;generalize witF k n=r at h;refine APure.intro (tyOf_ok Tryz.prog) hmix Tryz.func16 rfl (by rfl) (by kernel_rfl) (by show 2≤_;decide) rfl ?_;(conv=>whnf);refine apc h ?_;(conv=>whnf);exact .inl rfl
theorem outsT_inv {p:TR.LPg} {st l:List Ov} {q:List (Int×Int×ByteArray)} (h:outsT (playAll p st l)=some q):
 ∃K S r R,newF p K0=some K∧makeF K S0 0 wA st 7=some (S,r)∧playG K 150 S r l []=some R∧R.1.map (fun o=>(o.kind,o.num,o.text))=q:=by
 unfold playAll at h
 cases h1:newF p K0 with
 |none=>rw[h1]at h;cases h
 |some K=>
  rw[h1]at h;dsimp only at h
  cases h2:makeF K S0 0 wA st 7 with
  |none=>rw[h2]at h;cases h
  |some P=>
   rw[h2]at h;obtain⟨S,r⟩:=P;dsimp only at h
   cases h3:playG K 150 S r l [] with
   |none=>rw[h3]at h;cases h
   |some R=>
    rw[h3]at h;exact⟨K,S,r,R,rfl,h2,h3,Option.some.inj h⟩
theorem deep_low (ev:Value) (p:TR.LPg) (k:Int) (m:Nat) (hm:AMem Tryz.prog 11 [] (PA.hE ev) (.p (.b true)) (PA.hE ev)) (hw:APure Tryz.prog 16 [.p (.i .i64 k),.p (.i .i64 80)] (.p (.i .i64 (m:Int)))) (h:AMem Tryz.prog 12 [.p (.s (B deepL))] (PA.hE ev) (.p (TR.elPg p)) (PA.hE ev)) (hm2:m≤59)
 (hp:outsT (playAll p [oV 2 (m:Int),oV 2 2] [])=some [(2,(m:Int),⟨#[]⟩),(2,(m:Int),⟨#[]⟩),(2,(m:Int),⟨#[]⟩),(8,0,⟨#[]⟩)]):
 ∃K S zr,AMem Tryz.prog 5 [.p (.i .i64 k)] (PA.hE ev++stL K0 S0 (0,[])) (.p (.b true)) (PA.hE ev++stL K S zr):=by
 obtain⟨K,S,r,R,h1,h2,h3,h4⟩:=outsT_inv hp;obtain⟨outs,S9,r9⟩:=R;have hn:=new_spec K0 p K h1;have hpl:=played_spec K S0 (0,[]) 0 wA [oV 2 (m:Int),oV 2 2] [] S r (outs,S9,r9) h2 h3;refine⟨K,S9,(0+1,[(0,r9)]),?_⟩;clear h1 h2 h3 hp;dsimp only at h4 hpl;rcases outs with _|⟨a,_|⟨b,_|⟨c,_|⟨d,_|⟨e,outs⟩⟩⟩⟩⟩<;>simp at h4
 obtain⟨⟨a1,a2,a3⟩,⟨b1,b2,b3⟩,⟨c1,c2,c3⟩,d1,d2,d3⟩:=h4;obtain⟨ak,an,at_,a4,a5,a6,a7,a8⟩:=a;obtain⟨bk,bn,bt,b4,b5,b6,b7,b8⟩:=b;obtain⟨ck,cn,ct,c4,c5,c6,c7,c8⟩:=c;obtain⟨dk,dn,dt,d4,d5,d6,d7,d8⟩:=d;dsimp only at a1 a2 a3 b1 b2 b3 c1 c2 c3 d1 d2 d3;subst a1;subst b1;subst c1;subst d1;rw[a2,b2,c2]at hpl;have hM:(m:Int)≤59:=by omega
 obtain⟨pn,pv,pu,pd,pt,pi',pf,pa⟩:=p;unfold PA.hE at *;unfold stL TR.elPg hK hA at *;generalize (m:Int)=M at *;refine AMem.intro (tyOf_ok Tryz.prog) hmix Tryz.func5 rfl (by rfl) (by kernel_rfl) (by show 1≤_;decide) rfl ?_;(conv=>whnf);refine amc [1000000000] 500 hm ?_;(conv=>whnf);refine apc hw ?_;(conv=>whnf);refine amc [1000000000] 500 h ?_;(conv=>whnf);refine amc [1000000003,1000000004,1000000005,1000000010,1000000011,1000000012,1000000013,1000000014,1000000015] 500 hn ?_;(conv=>whnf);refine amc iD 500 hpl ?_;(conv=>whnf);refine asf (show decide (M>59)=false from decide_eq_false (by omega)) ?_;(conv=>whnf);refine aidxn (i:=0) (x:=.agg [.i .i64 2,.i .i64 M,.s at_,.i .i64 a4,.i .i64 a5,.s a6,.sl 4 (eOs a7),.sl 4 (eOs a8)]) rfl ?_;(conv=>whnf);refine ast (by simp) ?_;(conv=>whnf);refine aidxn (i:=1) (x:=.agg [.i .i64 2,.i .i64 M,.s bt,.i .i64 b4,.i .i64 b5,.s b6,.sl 4 (eOs b7),.sl 4 (eOs b8)]) rfl ?_;(conv=>whnf);refine ast (by simp) ?_;(conv=>whnf);refine aidxn (i:=2) (x:=.agg [.i .i64 2,.i .i64 M,.s ct,.i .i64 c4,.i .i64 c5,.s c6,.sl 4 (eOs c7),.sl 4 (eOs c8)]) rfl ?_;(conv=>whnf);refine ast (by simp) ?_;(conv=>whnf);refine aidxn (i:=3) (x:=.agg [.i .i64 8,.i .i64 dn,.s dt,.i .i64 d4,.i .i64 d5,.s d6,.sl 4 (eOs d7),.sl 4 (eOs d8)]) rfl ?_;(conv=>whnf);exact⟨.inl rfl,⟨⟨rfl,rfl⟩,s6,s6,s6,s6,s6,s6,s6,s6,s6,s6,s6,s6,s6,s6,s6,trivial⟩⟩
theorem deep_high (ev:Value) (p:TR.LPg) (k:Int) (m:Nat) (hm:AMem Tryz.prog 11 [] (PA.hE ev) (.p (.b true)) (PA.hE ev)) (hw:APure Tryz.prog 16 [.p (.i .i64 k),.p (.i .i64 80)] (.p (.i .i64 (m:Int)))) (h:AMem Tryz.prog 12 [.p (.s (B deepL))] (PA.hE ev) (.p (TR.elPg p)) (PA.hE ev)) (hm2:¬m≤59)
 (hp:outsT (playAll p [oV 2 (m:Int),oV 2 2] [])=some [(9,0,wDeep)]):
 ∃K S zr,AMem Tryz.prog 5 [.p (.i .i64 k)] (PA.hE ev++stL K0 S0 (0,[])) (.p (.b true)) (PA.hE ev++stL K S zr):=by
 obtain⟨K,S,r,R,h1,h2,h3,h4⟩:=outsT_inv hp;obtain⟨outs,S9,r9⟩:=R;have hn:=new_spec K0 p K h1;have hpl:=played_spec K S0 (0,[]) 0 wA [oV 2 (m:Int),oV 2 2] [] S r (outs,S9,r9) h2 h3;refine⟨K,S9,(0+1,[(0,r9)]),?_⟩;clear h1 h2 h3 hp;dsimp only at h4 hpl;rcases outs with _|⟨a,_|⟨b,outs⟩⟩<;>simp at h4
 obtain⟨a1,a2,a3⟩:=h4;obtain⟨ak,an,at_,a4,a5,a6,a7,a8⟩:=a;dsimp only at a1 a2 a3;subst a1;subst a3;have hM:¬(m:Int)≤59:=by omega
 obtain⟨pn,pv,pu,pd,pt,pi',pf,pa⟩:=p;unfold PA.hE at *;unfold stL TR.elPg hK hA at *;generalize (m:Int)=M at *;refine AMem.intro (tyOf_ok Tryz.prog) hmix Tryz.func5 rfl (by rfl) (by kernel_rfl) (by show 1≤_;decide) rfl ?_;(conv=>whnf);refine amc [1000000000] 500 hm ?_;(conv=>whnf);refine apc hw ?_;(conv=>whnf);refine amc [1000000000] 500 h ?_;(conv=>whnf);refine amc [1000000003,1000000004,1000000005,1000000010,1000000011,1000000012,1000000013,1000000014,1000000015] 500 hn ?_;(conv=>whnf);refine amc iD 500 hpl ?_;(conv=>whnf);refine ast (show decide (M>59)=true from decide_eq_true (by omega)) ?_;(conv=>whnf);refine aidxn (i:=0) (x:=.agg [.i .i64 9,.i .i64 an,.s wDeep,.i .i64 a4,.i .i64 a5,.s a6,.sl 4 (eOs a7),.sl 4 (eOs a8)]) rfl ?_;(conv=>whnf);refine aidxn (i:=0) (x:=.agg [.i .i64 9,.i .i64 an,.s wDeep,.i .i64 a4,.i .i64 a5,.s a6,.sl 4 (eOs a7),.sl 4 (eOs a8)]) rfl ?_;(conv=>whnf);rw[show(wDeep.toList==(⟨#[100,101,101,112]⟩:ByteArray).toList)=true by decide +kernel];exact⟨.inl rfl,⟨⟨rfl,rfl⟩,s6,s6,s6,s6,s6,s6,s6,s6,s6,s6,s6,s6,s6,s6,s6,trivial⟩⟩
theorem deep_spec (ev:Value) (hev:ev=.nilIface∨∃te pe,ev=.iface te pe) (k:Int) (hall:∀n:Nat,n<80→deepE n=deepQ n):AMem Tryz.prog 5 [.p (.i .i64 k)] (PA.hE ev) (.p (.b true)) (PA.hE ev):=by
 have hm:=means_spec ev hev;have h:=program_spec ev hev deepL (by kernel_rfl);have hw:=within_spec k 80 (by decide) (by decide);have h0:0≤witF k 80:=Int.emod_nonneg k (by omega);have h1:witF k 80<80:=Int.emod_lt_of_pos k (by omega);obtain⟨m,hme⟩:∃m:Nat,witF k 80=(m:Int):=⟨(witF k 80).toNat,by omega⟩
 rw[hme]at hw h0 h1;have hp:=hall m (by omega);unfold deepE deepQ at hp;generalize (PA.parseF deepL).1=p at h hp
 cases hb:Nat.ble m 59 with
 |true=>
  rw[hb]at hp;obtain⟨K,S,zr,h2⟩:=deep_low ev p k m hm hw h (Nat.le_of_ble_eq_true hb) hp;exact AMem.hide h2 rfl rfl rfl rfl
 |false=>
  rw[hb]at hp;obtain⟨K,S,zr,h2⟩:=deep_high ev p k m hm hw h (fun q=>by rw[Nat.ble_eq_true_of_le q]at hb;cases hb) hp;exact AMem.hide h2 rfl rfl rfl rfl
end MN
open Go Go.AM Go.Proofs TK
set_option maxRecDepth 100000
namespace MN
theorem deep_law (ev:Value) (hev:ev=.nilIface∨∃te pe,ev=.iface te pe) (k:Int):AMem Tryz.prog 5 [.p (.i .i64 k)] (PA.hE ev) (.p (.b true)) (PA.hE ev):=deep_spec ev hev k deep_all
end MN
