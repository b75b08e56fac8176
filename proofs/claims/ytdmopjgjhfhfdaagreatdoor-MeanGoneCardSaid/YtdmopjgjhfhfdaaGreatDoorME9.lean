/- Contracts, and the law, for every input. No conditions. -/
import Derived.Test.YtdmopjgjhfhfdaaGreatDoorME1
import Derived.Test.YtdmopjgjhfhfdaaGreatDoorMNM
open Go Go.AM Go.Proofs TK
set_option maxRecDepth 100000
namespace MN
def gpL:Bs:=[109,111,100,117,108,101,32,109,32,49,59,32,100,97,116,97,32,68,32,61,32,84,119,111,40,67,101,108,108,40,105,110,116,41,44,32,67,101,108,108,40,105,110,116,41,41,59,32,97,99,116,111,114,32,66,40,99,58,32,67,101,108,108,40,105,110,116,41,41,58,32,105,110,116,32,61,32,40,41,59,32,97,99,116,111,114,32,65,40,114,58,32,82,101,102,40,67,101,108,108,40,105,110,116,41,41,44,32,110,58,32,105,110,116,41,58,32,105,110,116,32,61,32,108,101,116,32,99,32,61,32,99,101,108,108,40,110,41,32,105,110,32,108,101,116,32,120,32,61,32,115,101,110,100,40,114,44,32,99,41,32,105,110,32]
def ga0:Bs:=[108,101,116,32,121,32,61,32,103,101,116,40,99,41,32,105,110,32,40,41]
def ga1:Bs:=[112,117,116,40,99,44,32,53,41]
def ga2:Bs:=[115,101,110,100,40,114,44,32,99,41]
def ga3:Bs:=[115,101,110,100,40,114,44,32,84,119,111,40,99,44,32,99,41,41]
def ga4:Bs:=[108,101,116,32,121,32,61,32,115,112,97,119,110,32,66,40,99,41,32,105,110,32,40,41]
def ga5:Bs:=[115,97,121,40,51,41]
def gsL:Bs:=[59]
def outsO (R:Option (Ks×List Ou×Ss×Rn)):Option (List Ou):=match R with
 |none=>none
 |some R=>some R.2.1
def sentO (n:Int):Ou:=⟨3,9,⟨#[]⟩,8,0,⟨#[]⟩,[.mk 2 n ⟨#[]⟩ []],[]⟩
theorem gone0 (n:Int):outsO (playAll (PA.parseF (gpL++ga0++gsL)).1 [oV 6 9,oV 2 n] [])=some [sentO n,failO wGone]:=by kernel_rfl
theorem gone1 (n:Int):outsO (playAll (PA.parseF (gpL++ga1++gsL)).1 [oV 6 9,oV 2 n] [])=some [sentO n,failO wGone]:=by kernel_rfl
theorem gone2 (n:Int):outsO (playAll (PA.parseF (gpL++ga2++gsL)).1 [oV 6 9,oV 2 n] [])=some [sentO n,failO wGone]:=by kernel_rfl
theorem gone3 (n:Int):outsO (playAll (PA.parseF (gpL++ga3++gsL)).1 [oV 6 9,oV 2 n] [])=some [sentO n,failO wGone]:=by kernel_rfl
theorem gone4 (n:Int):outsO (playAll (PA.parseF (gpL++ga4++gsL)).1 [oV 6 9,oV 2 n] [])=some [sentO n,failO wGone]:=by kernel_rfl
theorem gone5 (n:Int):outsO (playAll (PA.parseF (gpL++ga5++gsL)).1 [oV 6 9,oV 2 n] [])=some [sentO n,oNum 2 3,endO]:=by kernel_rfl
theorem outsO_inv {p:TR.LPg} {st l:List Ov} {q:List Ou} (h:outsO (playAll p st l)=some q):
 ∃K S r S9 r9,newF p K0=some K∧makeF K S0 0 wA st 7=some (S,r)∧playG K 150 S r l []=some (q,S9,r9):=by
 unfold playAll at h
 cases h1:newF p K0 with
 |none=>rw[h1]at h;cases h
 |some K=>
  rw[h1]at h;dsimp only at h
  cases h2:makeF K S0 0 wA st 7 with
  |none=>rw[h2]at h;cases h
  |some P=>
   rw[h2]at h;obtain⟨S,r⟩:=P;dsimp only at h
   cases h3:playG K 150 S r l [] with
   |none=>rw[h3]at h;cases h
   |some R=>
    rw[h3]at h;obtain⟨o,S9,r9⟩:=R;cases h;exact⟨K,S,r,S9,r9,rfl,h2,h3⟩
theorem same_sent (n:Int):APure Tryz.prog 19 [.p (.agg [.i .i64 8,.i .i64 0,.s ⟨#[]⟩,.sl 4 [.agg [.i .i64 2,.i .i64 n,.s ⟨#[]⟩,.sl 4 []]]]),.p (.agg [.i .i64 8,.i .i64 0,.s ⟨#[]⟩,.sl 4 [.agg [.i .i64 2,.i .i64 n,.s ⟨#[]⟩,.sl 4 []]]])] (.p (.b true)):=by
 have h:=same_value (.mk 8 0 ⟨#[]⟩ [.mk 2 n ⟨#[]⟩ []]) (.mk 8 0 ⟨#[]⟩ [.mk 2 n ⟨#[]⟩ []]) (by kernel_rfl);rw[show sO (.mk 8 0 ⟨#[]⟩ [.mk 2 n ⟨#[]⟩ []]) (.mk 8 0 ⟨#[]⟩ [.mk 2 n ⟨#[]⟩ []])=true by simp[sO,sOs,eqB]]at h;exact h
theorem gone_w0 (ev:Value) (p:TR.LPg) (k n:Int) (hm:AMem Tryz.prog 11 [] (PA.hE ev) (.p (.b true)) (PA.hE ev)) (hw:APure Tryz.prog 16 [.p (.i .i64 k),.p (.i .i64 6)] (.p (.i .i64 0)))
 (h:AMem Tryz.prog 12 [.p (.s (B gpL++B ga0++B gsL))] (PA.hE ev) (.p (TR.elPg p)) (PA.hE ev)) (hac:p.actors.length=2) (hp:outsO (playAll p [oV 6 9,oV 2 n] [])=some [sentO n,failO wGone]):
 ∃K S zr,AMem Tryz.prog 8 [.p (.i .i64 k),.p (.i .i64 n)] (PA.hE ev++stL K0 S0 (0,[])) (.p (.b true)) (PA.hE ev++stL K S zr):=by
 obtain⟨K,S,r,S9,r9,h1,h2,h3⟩:=outsO_inv hp;have hn:=new_spec K0 p K h1;have hpl:=played_spec K S0 (0,[]) 0 wA [oV 6 9,oV 2 n] [] S r (_,S9,r9) h2 h3;have hsv:=same_sent n;refine⟨K,S9,(0+1,[(0,r9)]),?_⟩;clear h1 h2 h3 hp;dsimp only at hpl;obtain⟨pn,pv,pu,pd,pt,pi',pf,pa⟩:=p;dsimp only at hac;have hac:(pa.map TR.elAc).length=2:=by rw[List.length_map,hac]
 unfold PA.hE at *;unfold stL TR.elPg hK hA at *;refine AMem.intro (tyOf_ok Tryz.prog) hmix Tryz.func8 rfl (by rfl) (by kernel_rfl) (by show 2≤_;decide) rfl ?_;(conv=>whnf);refine amc [1000000000] 500 hm ?_;(conv=>whnf);refine apc hw ?_;(conv=>whnf);refine aidxn (i:=0) rfl ?_;(conv=>whnf);refine aneed (Nat.le_of_ble_eq_true (by kernel_rfl)) ?_;(conv=>whnf);refine aneed (by rw[ByteArray.size_append];exact Nat.le_of_ble_eq_true (by kernel_rfl)) ?_;(conv=>whnf);refine amc [1000000000] 500 h ?_;(conv=>whnf);refine amc [1000000003,1000000004,1000000005,1000000010,1000000011,1000000012,1000000013,1000000014,1000000015] 500 hn ?_;(conv=>whnf);refine amc iD 500 hpl ?_;(conv=>whnf);refine asf (by rw[hac];rfl) ?_;(conv=>whnf);refine aidxn (i:=0) rfl ?_;(conv=>whnf);refine aidxn (i:=0) rfl ?_;(conv=>whnf);refine apc hsv ?_;(conv=>whnf);rw[show IntKind.i64.wrap (((eOl [sentO n,failO wGone]).length:Int)-1)=((1:Nat):Int) from rfl];refine aidxn (i:=1) rfl ?_;(conv=>whnf);refine apc hw ?_;(conv=>whnf)
 first|refine ast (by kernel_rfl) ?_|refine asf (by kernel_rfl) ?_|skip
 (conv=>whnf);exact⟨.inl rfl,⟨⟨rfl,rfl⟩,s6,s6,s6,s6,s6,s6,s6,s6,s6,s6,s6,s6,s6,s6,s6,s6,trivial⟩⟩
theorem gone_w1 (ev:Value) (p:TR.LPg) (k n:Int) (hm:AMem Tryz.prog 11 [] (PA.hE ev) (.p (.b true)) (PA.hE ev)) (hw:APure Tryz.prog 16 [.p (.i .i64 k),.p (.i .i64 6)] (.p (.i .i64 1)))
 (h:AMem Tryz.prog 12 [.p (.s (B gpL++B ga1++B gsL))] (PA.hE ev) (.p (TR.elPg p)) (PA.hE ev)) (hac:p.actors.length=2) (hp:outsO (playAll p [oV 6 9,oV 2 n] [])=some [sentO n,failO wGone]):
 ∃K S zr,AMem Tryz.prog 8 [.p (.i .i64 k),.p (.i .i64 n)] (PA.hE ev++stL K0 S0 (0,[])) (.p (.b true)) (PA.hE ev++stL K S zr):=by
 obtain⟨K,S,r,S9,r9,h1,h2,h3⟩:=outsO_inv hp;have hn:=new_spec K0 p K h1;have hpl:=played_spec K S0 (0,[]) 0 wA [oV 6 9,oV 2 n] [] S r (_,S9,r9) h2 h3;have hsv:=same_sent n;refine⟨K,S9,(0+1,[(0,r9)]),?_⟩;clear h1 h2 h3 hp;dsimp only at hpl;obtain⟨pn,pv,pu,pd,pt,pi',pf,pa⟩:=p;dsimp only at hac;have hac:(pa.map TR.elAc).length=2:=by rw[List.length_map,hac]
 unfold PA.hE at *;unfold stL TR.elPg hK hA at *;refine AMem.intro (tyOf_ok Tryz.prog) hmix Tryz.func8 rfl (by rfl) (by kernel_rfl) (by show 2≤_;decide) rfl ?_;(conv=>whnf);refine amc [1000000000] 500 hm ?_;(conv=>whnf);refine apc hw ?_;(conv=>whnf);refine aidxn (i:=1) rfl ?_;(conv=>whnf);refine aneed (Nat.le_of_ble_eq_true (by kernel_rfl)) ?_;(conv=>whnf);refine aneed (by rw[ByteArray.size_append];exact Nat.le_of_ble_eq_true (by kernel_rfl)) ?_;(conv=>whnf);refine amc [1000000000] 500 h ?_;(conv=>whnf);refine amc [1000000003,1000000004,1000000005,1000000010,1000000011,1000000012,1000000013,1000000014,1000000015] 500 hn ?_;(conv=>whnf);refine amc iD 500 hpl ?_;(conv=>whnf);refine asf (by rw[hac];rfl) ?_;(conv=>whnf);refine aidxn (i:=0) rfl ?_;(conv=>whnf);refine aidxn (i:=0) rfl ?_;(conv=>whnf);refine apc hsv ?_;(conv=>whnf);rw[show IntKind.i64.wrap (((eOl [sentO n,failO wGone]).length:Int)-1)=((1:Nat):Int) from rfl];refine aidxn (i:=1) rfl ?_;(conv=>whnf);refine apc hw ?_;(conv=>whnf)
 first|refine ast (by kernel_rfl) ?_|refine asf (by kernel_rfl) ?_|skip
 (conv=>whnf);exact⟨.inl rfl,⟨⟨rfl,rfl⟩,s6,s6,s6,s6,s6,s6,s6,s6,s6,s6,s6,s6,s6,s6,s6,s6,trivial⟩⟩
theorem gone_w2 (ev:Value) (p:TR.LPg) (k n:Int) (hm:AMem Tryz.prog 11 [] (PA.hE ev) (.p (.b true)) (PA.hE ev)) (hw:APure Tryz.prog 16 [.p (.i .i64 k),.p (.i .i64 6)] (.p (.i .i64 2)))
 (h:AMem Tryz.prog 12 [.p (.s (B gpL++B ga2++B gsL))] (PA.hE ev) (.p (TR.elPg p)) (PA.hE ev)) (hac:p.actors.length=2) (hp:outsO (playAll p [oV 6 9,oV 2 n] [])=some [sentO n,failO wGone]):
 ∃K S zr,AMem Tryz.prog 8 [.p (.i .i64 k),.p (.i .i64 n)] (PA.hE ev++stL K0 S0 (0,[])) (.p (.b true)) (PA.hE ev++stL K S zr):=by
 obtain⟨K,S,r,S9,r9,h1,h2,h3⟩:=outsO_inv hp;have hn:=new_spec K0 p K h1;have hpl:=played_spec K S0 (0,[]) 0 wA [oV 6 9,oV 2 n] [] S r (_,S9,r9) h2 h3;have hsv:=same_sent n;refine⟨K,S9,(0+1,[(0,r9)]),?_⟩;clear h1 h2 h3 hp;dsimp only at hpl;obtain⟨pn,pv,pu,pd,pt,pi',pf,pa⟩:=p;dsimp only at hac;have hac:(pa.map TR.elAc).length=2:=by rw[List.length_map,hac]
 unfold PA.hE at *;unfold stL TR.elPg hK hA at *;refine AMem.intro (tyOf_ok Tryz.prog) hmix Tryz.func8 rfl (by rfl) (by kernel_rfl) (by show 2≤_;decide) rfl ?_;(conv=>whnf);refine amc [1000000000] 500 hm ?_;(conv=>whnf);refine apc hw ?_;(conv=>whnf);refine aidxn (i:=2) rfl ?_;(conv=>whnf);refine aneed (Nat.le_of_ble_eq_true (by kernel_rfl)) ?_;(conv=>whnf);refine aneed (by rw[ByteArray.size_append];exact Nat.le_of_ble_eq_true (by kernel_rfl)) ?_;(conv=>whnf);refine amc [1000000000] 500 h ?_;(conv=>whnf);refine amc [1000000003,1000000004,1000000005,1000000010,1000000011,1000000012,1000000013,1000000014,1000000015] 500 hn ?_;(conv=>whnf);refine amc iD 500 hpl ?_;(conv=>whnf);refine asf (by rw[hac];rfl) ?_;(conv=>whnf);refine aidxn (i:=0) rfl ?_;(conv=>whnf);refine aidxn (i:=0) rfl ?_;(conv=>whnf);refine apc hsv ?_;(conv=>whnf);rw[show IntKind.i64.wrap (((eOl [sentO n,failO wGone]).length:Int)-1)=((1:Nat):Int) from rfl];refine aidxn (i:=1) rfl ?_;(conv=>whnf);refine apc hw ?_;(conv=>whnf)
 first|refine ast (by kernel_rfl) ?_|refine asf (by kernel_rfl) ?_|skip
 (conv=>whnf);exact⟨.inl rfl,⟨⟨rfl,rfl⟩,s6,s6,s6,s6,s6,s6,s6,s6,s6,s6,s6,s6,s6,s6,s6,s6,trivial⟩⟩
theorem gone_w3 (ev:Value) (p:TR.LPg) (k n:Int) (hm:AMem Tryz.prog 11 [] (PA.hE ev) (.p (.b true)) (PA.hE ev)) (hw:APure Tryz.prog 16 [.p (.i .i64 k),.p (.i .i64 6)] (.p (.i .i64 3)))
 (h:AMem Tryz.prog 12 [.p (.s (B gpL++B ga3++B gsL))] (PA.hE ev) (.p (TR.elPg p)) (PA.hE ev)) (hac:p.actors.length=2) (hp:outsO (playAll p [oV 6 9,oV 2 n] [])=some [sentO n,failO wGone]):
 ∃K S zr,AMem Tryz.prog 8 [.p (.i .i64 k),.p (.i .i64 n)] (PA.hE ev++stL K0 S0 (0,[])) (.p (.b true)) (PA.hE ev++stL K S zr):=by
 obtain⟨K,S,r,S9,r9,h1,h2,h3⟩:=outsO_inv hp;have hn:=new_spec K0 p K h1;have hpl:=played_spec K S0 (0,[]) 0 wA [oV 6 9,oV 2 n] [] S r (_,S9,r9) h2 h3;have hsv:=same_sent n;refine⟨K,S9,(0+1,[(0,r9)]),?_⟩;clear h1 h2 h3 hp;dsimp only at hpl;obtain⟨pn,pv,pu,pd,pt,pi',pf,pa⟩:=p;dsimp only at hac;have hac:(pa.map TR.elAc).length=2:=by rw[List.length_map,hac]
 unfold PA.hE at *;unfold stL TR.elPg hK hA at *;refine AMem.intro (tyOf_ok Tryz.prog) hmix Tryz.func8 rfl (by rfl) (by kernel_rfl) (by show 2≤_;decide) rfl ?_;(conv=>whnf);refine amc [1000000000] 500 hm ?_;(conv=>whnf);refine apc hw ?_;(conv=>whnf);refine aidxn (i:=3) rfl ?_;(conv=>whnf);refine aneed (Nat.le_of_ble_eq_true (by kernel_rfl)) ?_;(conv=>whnf);refine aneed (by rw[ByteArray.size_append];exact Nat.le_of_ble_eq_true (by kernel_rfl)) ?_;(conv=>whnf);refine amc [1000000000] 500 h ?_;(conv=>whnf);refine amc [1000000003,1000000004,1000000005,1000000010,1000000011,1000000012,1000000013,1000000014,1000000015] 500 hn ?_;(conv=>whnf);refine amc iD 500 hpl ?_;(conv=>whnf);refine asf (by rw[hac];rfl) ?_;(conv=>whnf);refine aidxn (i:=0) rfl ?_;(conv=>whnf);refine aidxn (i:=0) rfl ?_;(conv=>whnf);refine apc hsv ?_;(conv=>whnf);rw[show IntKind.i64.wrap (((eOl [sentO n,failO wGone]).length:Int)-1)=((1:Nat):Int) from rfl];refine aidxn (i:=1) rfl ?_;(conv=>whnf);refine apc hw ?_;(conv=>whnf)
 first|refine ast (by kernel_rfl) ?_|refine asf (by kernel_rfl) ?_|skip
 (conv=>whnf);exact⟨.inl rfl,⟨⟨rfl,rfl⟩,s6,s6,s6,s6,s6,s6,s6,s6,s6,s6,s6,s6,s6,s6,s6,s6,trivial⟩⟩
theorem gone_w4 (ev:Value) (p:TR.LPg) (k n:Int) (hm:AMem Tryz.prog 11 [] (PA.hE ev) (.p (.b true)) (PA.hE ev)) (hw:APure Tryz.prog 16 [.p (.i .i64 k),.p (.i .i64 6)] (.p (.i .i64 4)))
 (h:AMem Tryz.prog 12 [.p (.s (B gpL++B ga4++B gsL))] (PA.hE ev) (.p (TR.elPg p)) (PA.hE ev)) (hac:p.actors.length=2) (hp:outsO (playAll p [oV 6 9,oV 2 n] [])=some [sentO n,failO wGone]):
 ∃K S zr,AMem Tryz.prog 8 [.p (.i .i64 k),.p (.i .i64 n)] (PA.hE ev++stL K0 S0 (0,[])) (.p (.b true)) (PA.hE ev++stL K S zr):=by
 obtain⟨K,S,r,S9,r9,h1,h2,h3⟩:=outsO_inv hp;have hn:=new_spec K0 p K h1;have hpl:=played_spec K S0 (0,[]) 0 wA [oV 6 9,oV 2 n] [] S r (_,S9,r9) h2 h3;have hsv:=same_sent n;refine⟨K,S9,(0+1,[(0,r9)]),?_⟩;clear h1 h2 h3 hp;dsimp only at hpl;obtain⟨pn,pv,pu,pd,pt,pi',pf,pa⟩:=p;dsimp only at hac;have hac:(pa.map TR.elAc).length=2:=by rw[List.length_map,hac]
 unfold PA.hE at *;unfold stL TR.elPg hK hA at *;refine AMem.intro (tyOf_ok Tryz.prog) hmix Tryz.func8 rfl (by rfl) (by kernel_rfl) (by show 2≤_;decide) rfl ?_;(conv=>whnf);refine amc [1000000000] 500 hm ?_;(conv=>whnf);refine apc hw ?_;(conv=>whnf);refine aidxn (i:=4) rfl ?_;(conv=>whnf);refine aneed (Nat.le_of_ble_eq_true (by kernel_rfl)) ?_;(conv=>whnf);refine aneed (by rw[ByteArray.size_append];exact Nat.le_of_ble_eq_true (by kernel_rfl)) ?_;(conv=>whnf);refine amc [1000000000] 500 h ?_;(conv=>whnf);refine amc [1000000003,1000000004,1000000005,1000000010,1000000011,1000000012,1000000013,1000000014,1000000015] 500 hn ?_;(conv=>whnf);refine amc iD 500 hpl ?_;(conv=>whnf);refine asf (by rw[hac];rfl) ?_;(conv=>whnf);refine aidxn (i:=0) rfl ?_;(conv=>whnf);refine aidxn (i:=0) rfl ?_;(conv=>whnf);refine apc hsv ?_;(conv=>whnf);rw[show IntKind.i64.wrap (((eOl [sentO n,failO wGone]).length:Int)-1)=((1:Nat):Int) from rfl];refine aidxn (i:=1) rfl ?_;(conv=>whnf);refine apc hw ?_;(conv=>whnf)
 first|refine ast (by kernel_rfl) ?_|refine asf (by kernel_rfl) ?_|skip
 (conv=>whnf);exact⟨.inl rfl,⟨⟨rfl,rfl⟩,s6,s6,s6,s6,s6,s6,s6,s6,s6,s6,s6,s6,s6,s6,s6,s6,trivial⟩⟩
theorem gone_w5 (ev:Value) (p:TR.LPg) (k n:Int) (hm:AMem Tryz.prog 11 [] (PA.hE ev) (.p (.b true)) (PA.hE ev)) (hw:APure Tryz.prog 16 [.p (.i .i64 k),.p (.i .i64 6)] (.p (.i .i64 5)))
 (h:AMem Tryz.prog 12 [.p (.s (B gpL++B ga5++B gsL))] (PA.hE ev) (.p (TR.elPg p)) (PA.hE ev)) (hac:p.actors.length=2) (hp:outsO (playAll p [oV 6 9,oV 2 n] [])=some [sentO n,oNum 2 3,endO]):
 ∃K S zr,AMem Tryz.prog 8 [.p (.i .i64 k),.p (.i .i64 n)] (PA.hE ev++stL K0 S0 (0,[])) (.p (.b true)) (PA.hE ev++stL K S zr):=by
 obtain⟨K,S,r,S9,r9,h1,h2,h3⟩:=outsO_inv hp;have hn:=new_spec K0 p K h1;have hpl:=played_spec K S0 (0,[]) 0 wA [oV 6 9,oV 2 n] [] S r (_,S9,r9) h2 h3;have hsv:=same_sent n;refine⟨K,S9,(0+1,[(0,r9)]),?_⟩;clear h1 h2 h3 hp;dsimp only at hpl;obtain⟨pn,pv,pu,pd,pt,pi',pf,pa⟩:=p;dsimp only at hac;have hac:(pa.map TR.elAc).length=2:=by rw[List.length_map,hac]
 unfold PA.hE at *;unfold stL TR.elPg hK hA at *;refine AMem.intro (tyOf_ok Tryz.prog) hmix Tryz.func8 rfl (by rfl) (by kernel_rfl) (by show 2≤_;decide) rfl ?_;(conv=>whnf);refine amc [1000000000] 500 hm ?_;(conv=>whnf);refine apc hw ?_;(conv=>whnf);refine aidxn (i:=5) rfl ?_;(conv=>whnf);refine aneed (Nat.le_of_ble_eq_true (by kernel_rfl)) ?_;(conv=>whnf);refine aneed (by rw[ByteArray.size_append];exact Nat.le_of_ble_eq_true (by kernel_rfl)) ?_;(conv=>whnf);refine amc [1000000000] 500 h ?_;(conv=>whnf);refine amc [1000000003,1000000004,1000000005,1000000010,1000000011,1000000012,1000000013,1000000014,1000000015] 500 hn ?_;(conv=>whnf);refine amc iD 500 hpl ?_;(conv=>whnf);refine asf (by rw[hac];rfl) ?_;(conv=>whnf);refine aidxn (i:=0) rfl ?_;(conv=>whnf);refine aidxn (i:=0) rfl ?_;(conv=>whnf);refine apc hsv ?_;(conv=>whnf);rw[show IntKind.i64.wrap (((eOl [sentO n,oNum 2 3,endO]).length:Int)-1)=((2:Nat):Int) from rfl];refine aidxn (i:=2) rfl ?_;(conv=>whnf);refine apc hw ?_;(conv=>whnf)
 first|refine ast (by kernel_rfl) ?_|refine asf (by kernel_rfl) ?_|skip
 (conv=>whnf);refine aidxn (i:=1) rfl ?_;(conv=>whnf);exact⟨.inl rfl,⟨⟨rfl,rfl⟩,s6,s6,s6,s6,s6,s6,s6,s6,s6,s6,s6,s6,s6,s6,s6,s6,trivial⟩⟩
theorem gone_spec (ev:Value) (hev:ev=.nilIface∨∃te pe,ev=.iface te pe) (k n:Int):AMem Tryz.prog 8 [.p (.i .i64 k),.p (.i .i64 n)] (PA.hE ev) (.p (.b true)) (PA.hE ev):=by
 have hm:=means_spec ev hev;have hw:=within_spec k 6 (by decide) (by decide);have h0:0≤witF k 6:=Int.emod_nonneg k (by omega);have h1:witF k 6<6:=Int.emod_lt_of_pos k (by omega);have hc:witF k 6=0∨witF k 6=1∨witF k 6=2∨witF k 6=3∨witF k 6=4∨witF k 6=5:=by omega
 rcases hc with e|e|e|e|e|e
 ·rw[e]at hw
  have h:=program_spec ev hev (gpL++ga0++gsL) (by kernel_rfl);have hp:=gone0 n;have hac:(PA.parseF (gpL++ga0++gsL)).1.actors.length=2:=by kernel_rfl
  generalize (PA.parseF (gpL++ga0++gsL)).1=p at h hp hac;rw[←B_app,←B_app]at h;obtain⟨K,S,zr,h2⟩:=gone_w0 ev p k n hm hw h hac hp;exact AMem.hide h2 rfl rfl rfl rfl
 ·rw[e]at hw
  have h:=program_spec ev hev (gpL++ga1++gsL) (by kernel_rfl);have hp:=gone1 n;have hac:(PA.parseF (gpL++ga1++gsL)).1.actors.length=2:=by kernel_rfl
  generalize (PA.parseF (gpL++ga1++gsL)).1=p at h hp hac;rw[←B_app,←B_app]at h;obtain⟨K,S,zr,h2⟩:=gone_w1 ev p k n hm hw h hac hp;exact AMem.hide h2 rfl rfl rfl rfl
 ·rw[e]at hw
  have h:=program_spec ev hev (gpL++ga2++gsL) (by kernel_rfl);have hp:=gone2 n;have hac:(PA.parseF (gpL++ga2++gsL)).1.actors.length=2:=by kernel_rfl
  generalize (PA.parseF (gpL++ga2++gsL)).1=p at h hp hac;rw[←B_app,←B_app]at h;obtain⟨K,S,zr,h2⟩:=gone_w2 ev p k n hm hw h hac hp;exact AMem.hide h2 rfl rfl rfl rfl
 ·rw[e]at hw
  have h:=program_spec ev hev (gpL++ga3++gsL) (by kernel_rfl);have hp:=gone3 n;have hac:(PA.parseF (gpL++ga3++gsL)).1.actors.length=2:=by kernel_rfl
  generalize (PA.parseF (gpL++ga3++gsL)).1=p at h hp hac;rw[←B_app,←B_app]at h;obtain⟨K,S,zr,h2⟩:=gone_w3 ev p k n hm hw h hac hp;exact AMem.hide h2 rfl rfl rfl rfl
 ·rw[e]at hw
  have h:=program_spec ev hev (gpL++ga4++gsL) (by kernel_rfl);have hp:=gone4 n;have hac:(PA.parseF (gpL++ga4++gsL)).1.actors.length=2:=by kernel_rfl
  generalize (PA.parseF (gpL++ga4++gsL)).1=p at h hp hac;rw[←B_app,←B_app]at h;obtain⟨K,S,zr,h2⟩:=gone_w4 ev p k n hm hw h hac hp;exact AMem.hide h2 rfl rfl rfl rfl
 ·rw[e]at hw
  have h:=program_spec ev hev (gpL++ga5++gsL) (by kernel_rfl);have hp:=gone5 n;have hac:(PA.parseF (gpL++ga5++gsL)).1.actors.length=2:=by kernel_rfl
  generalize (PA.parseF (gpL++ga5++gsL)).1=p at h hp hac;rw[←B_app,←B_app]at h;obtain⟨K,S,zr,h2⟩:=gone_w5 ev p k n hm hw h hac hp;exact AMem.hide h2 rfl rfl rfl rfl
end MN
