/- Contracts, and the law, for every input. No conditions. -/
import Derived.Test.YtdmopjgjhfhfdaaGreatDoorMO2
import Derived.Test.YtdmopjgjhfhfdaaGreatDoorMNI
open Go Go.AM Go.Proofs TK
set_option maxRecDepth 100000
namespace MN
theorem enter_spec (K:Ks) (S:Ss) (zr:Sto Rn) (k:Nat) (r:Rn) (f:Fr) (R:Ss×Rn) (hr:tlk k zr.2=some r) (hl:f.vals=.nil) (hF:enterF K S r f=some R):
 AMem Tryz.prog 237 [.p (.adr rS k),.p (.agg (cFr f))] (hA K S zr) (.tup []) (hA K R.1 (zr.1,tset k R.2 zr.2)):=by
 have hrs:=resume_spec K S zr k r f R hr;have hfl:=fail_spec zr S.o k wType r hr;have hwt:=fun n kn=>wait_spec zr S.o K.n k f r n kn hr;unfold enterF nodeF at hF;obtain⟨f1,f2,f3,f4,f5⟩:=f;dsimp only at hF hl;subst hl
 cases f1 with
 |none=>cases hF
 |some kn=>
  dsimp only at hF
  cases hn:tlk kn K.n.2 with
  |none=>rw[hn]at hF;cases hF
  |some n=>
   rw[hn]at hF;have hwt:=hwt n kn rfl hn;obtain⟨n1,n2,n3,n4,n5,n6,n7,n8,n9⟩:=n;dsimp only at hF;generalize hZ:waitO ⟨n1,n2,n3,n4,n5,n6,n7,n8,n9⟩=Z at hF hwt;unfold hA hNd cFr at *;dsimp only[eFV]at *
   cases n5 with
   |none=>
    refine AMem.intro (tyOf_ok Tryz.prog) hmix Tryz.func237 rfl (by rfl) (by kernel_rfl) (by show 2≤_;decide) rfl ?_;(conv=>whnf);refine lpe eNd hn rfl ?_;(conv=>whnf);refine asplit ?_ ?_<;>intro h1<;>conv=>whnf
    ·rw[show decide (n7<0)=true from h1]at hF
     cases hF;refine amc [1000000000,1000000001] 300 hfl ?_;(conv=>whnf);refine⟨.inl rfl,⟨s6,s6,s6,s6,s6,s6,s6,s6,s6,s6,s6,s6,s6,s6,s6,s6,trivial⟩⟩
    rw[show decide (n7<0)=false from h1]at hF;dsimp only at hF;refine lpe eNd hn rfl ?_;(conv=>whnf);refine lpe eNd hn rfl ?_;(conv=>whnf);refine aneed (.inl (by kernel_rfl)) ?_;(conv=>whnf);refine asplit ?_ ?_<;>intro h2<;>conv=>whnf
    ·rw[show decide ((lBk none:Int)<n7)=true from h2]at hF
     refine amc iA 300 (hrs hF) ?_;(conv=>whnf);refine⟨.inl rfl,⟨s6,s6,s6,s6,s6,s6,s6,s6,s6,s6,s6,s6,s6,s6,s6,s6,trivial⟩⟩
    rw[show decide ((lBk none:Int)<n7)=false from h2]at hF;dsimp only at hF;refine lpe eNd hn rfl ?_;(conv=>whnf);refine asplit ?_ ?_<;>intro h10<;>conv=>whnf
    ·rw[show(n1==10)=true from h10]at hF
     cases hF
    rw[show(n1==10)=false from h10]at hF;dsimp only at hF;refine asplit ?_ ?_<;>intro h18<;>conv=>whnf
    ·rw[show(n1==18)=true from h18]at hF
     cases hF;refine amc [1000000000,1000000001,1000000002] 300 hwt ?_;(conv=>whnf);refine⟨.inl rfl,⟨s6,s6,s6,s6,s6,s6,s6,s6,s6,s6,s6,s6,s6,s6,s6,s6,trivial⟩⟩
    rw[show(n1==18)=false from h18]at hF;refine amc iA 300 (hrs hF) ?_;(conv=>whnf);refine⟨.inl rfl,⟨s6,s6,s6,s6,s6,s6,s6,s6,s6,s6,s6,s6,s6,s6,s6,s6,trivial⟩⟩
   |some q=>
    refine AMem.intro (tyOf_ok Tryz.prog) hmix Tryz.func237 rfl (by rfl) (by kernel_rfl) (by show 2≤_;decide) rfl ?_;(conv=>whnf);refine lpe eNd hn rfl ?_;(conv=>whnf);refine asplit ?_ ?_<;>intro h1<;>conv=>whnf
    ·rw[show decide (n7<0)=true from h1]at hF
     cases hF;refine amc [1000000000,1000000001] 300 hfl ?_;(conv=>whnf);refine⟨.inl rfl,⟨s6,s6,s6,s6,s6,s6,s6,s6,s6,s6,s6,s6,s6,s6,s6,s6,trivial⟩⟩
    rw[show decide (n7<0)=false from h1]at hF;dsimp only at hF;refine lpe eNd hn rfl ?_;(conv=>whnf);refine lpe eNd hn rfl ?_;(conv=>whnf);refine aneed (.inl (by kernel_rfl)) ?_;(conv=>whnf);refine asplit ?_ ?_<;>intro h2<;>conv=>whnf
    ·rw[show decide ((lBk (some q):Int)<n7)=true from h2]at hF
     refine amc iA 300 (hrs hF) ?_;(conv=>whnf);refine⟨.inl rfl,⟨s6,s6,s6,s6,s6,s6,s6,s6,s6,s6,s6,s6,s6,s6,s6,s6,trivial⟩⟩
    rw[show decide ((lBk (some q):Int)<n7)=false from h2]at hF;dsimp only at hF;refine lpe eNd hn rfl ?_;(conv=>whnf);refine asplit ?_ ?_<;>intro h10<;>conv=>whnf
    ·rw[show(n1==10)=true from h10]at hF
     cases hF
    rw[show(n1==10)=false from h10]at hF;dsimp only at hF;refine asplit ?_ ?_<;>intro h18<;>conv=>whnf
    ·rw[show(n1==18)=true from h18]at hF
     cases hF;refine amc [1000000000,1000000001,1000000002] 300 hwt ?_;(conv=>whnf);refine⟨.inl rfl,⟨s6,s6,s6,s6,s6,s6,s6,s6,s6,s6,s6,s6,s6,s6,s6,s6,trivial⟩⟩
    rw[show(n1==18)=false from h18]at hF;refine amc iA 300 (hrs hF) ?_;(conv=>whnf);refine⟨.inl rfl,⟨s6,s6,s6,s6,s6,s6,s6,s6,s6,s6,s6,s6,s6,s6,s6,s6,trivial⟩⟩
end MN
open Go Go.AM Go.Proofs TK
set_option maxRecDepth 100000
namespace MN
noncomputable def tySt:Nat→Option TI:=hint (hintZ (tyOf Tryz.prog) 136 [1,1,0,1,1]) 127 [1000050]
theorem tySt_ok:TyOK Tryz.prog tySt:=((tyOf_ok Tryz.prog).hintZ _ _).hint _ _
theorem vls_push (nx g1 g2:Nat) (fl:List Vl) (v:Vl) (M:List (Nat×List Vl)):(nx,(eVs fl).take g2++[eV v])::sdel g1 (enM eVs M)=enM eVs ((nx,fl.take g2++[v])::tdel g1 M):=by
 rw[enM,sdel_en];have:eVs (fl.take g2++[v])=(eVs fl).take g2++[eV v]:=by rw[eVs_map,eVs_map];simp[List.map_take]
 rw[this]
theorem eFrs_get {l:List Fr} {j:Nat} {f:Fr} (h:l[j]?=some f):(eFrs l)[j]?=some (.agg (cFr f)):=by
 unfold eFrs;rw[List.getElem?_map,h];rfl
theorem step_cur (K:Ks) (S:Ss) (zr:Sto Rn) (k:Nat) (r:Rn) (R:Ss×Rn) (hr:tlk k zr.2=some r) (hc:r.cur.n.isSome) (hl:r.cur.vals=.nil) (hF:stepF K S r=some R):
 AMem Tryz.prog 233 [.p (.adr rS k)] (hA K S zr) (.tup []) (hA K R.1 (zr.1,tset k R.2 zr.2)):=by
 have he:=enter_spec K S zr k r r.cur R hr hl;obtain⟨r1,r2,r3,r4,r5,r6,r7,⟨c1,c2,c3,c4,c5⟩,⟨wk,wn,wt,wa,wc⟩,⟨o1,o2,o3,o4,o5,o6,o7,o8⟩,⟨p1,p2,p3,p4,p5⟩,r12⟩:=r;dsimp only at hl hc;subst hl
 cases c1 with
 |none=>cases hc
 |some kn=>
  unfold stepF at hF;dsimp only at hF;have he:=he hF;unfold hA hRn cFr at *;dsimp only[eFV]at *
  cases c2 with
  |none=>
   refine AMem.intro (tyOf_ok Tryz.prog) hmix Tryz.func233 rfl (by rfl) (by kernel_rfl) (by show 1≤_;decide) rfl ?_;(conv=>whnf);refine lpe eRn hr rfl ?_;(conv=>whnf);refine lpe eRn hr rfl ?_;(conv=>whnf);refine amc iA 300 he ?_;(conv=>whnf);refine⟨.inl rfl,⟨s6,s6,s6,s6,s6,s6,s6,s6,s6,s6,s6,s6,s6,s6,s6,s6,trivial⟩⟩
  |some s=>
   refine AMem.intro (tyOf_ok Tryz.prog) hmix Tryz.func233 rfl (by rfl) (by kernel_rfl) (by show 1≤_;decide) rfl ?_;(conv=>whnf);refine lpe eRn hr rfl ?_;(conv=>whnf);refine lpe eRn hr rfl ?_;(conv=>whnf);refine amc iA 300 he ?_;(conv=>whnf);refine⟨.inl rfl,⟨s6,s6,s6,s6,s6,s6,s6,s6,s6,s6,s6,s6,s6,s6,s6,s6,trivial⟩⟩
theorem step_end (K:Ks) (S:Ss) (zr:Sto Rn) (k:Nat) (r:Rn) (hr:tlk k zr.2=some r) (hc:r.cur.n=none) (hs:r.stack=none∨∃q,r.stack=some (q,0)):
 AMem Tryz.prog 233 [.p (.adr rS k)] (hA K S zr) (.tup []) (hA K { S with o:=(S.o.1+1,(S.o.1,endO)::S.o.2) } (zr.1,tset k (stopR r endO S.o.1) zr.2)):=by
 have he:=stop_spec zr S.o k endO r hr;obtain⟨r1,r2,r3,r4,r5,r6,r7,⟨c1,c2,c3,c4,c5⟩,⟨wk,wn,wt,wa,wc⟩,⟨o1,o2,o3,o4,o5,o6,o7,o8⟩,⟨p1,p2,p3,p4,p5⟩,r12⟩:=r;dsimp only at hc hs;subst hc;unfold hA hRn at *;rcases hs with rfl|⟨q,rfl⟩
 ·refine AMem.intro (tyOf_ok Tryz.prog) hmix Tryz.func233 rfl (by rfl) (by kernel_rfl) (by show 1≤_;decide) rfl ?_
  (conv=>whnf);refine lpe eRn hr rfl ?_;(conv=>whnf);refine lpe eRn hr rfl ?_;(conv=>whnf);refine amc [1000000000,1000000001] 300 he ?_;(conv=>whnf);refine⟨.inl rfl,⟨s6,s6,s6,s6,s6,s6,s6,s6,s6,s6,s6,s6,s6,s6,s6,s6,trivial⟩⟩
 ·refine AMem.intro (tyOf_ok Tryz.prog) hmix Tryz.func233 rfl (by rfl) (by kernel_rfl) (by show 1≤_;decide) rfl ?_
  (conv=>whnf);refine lpe eRn hr rfl ?_;(conv=>whnf);refine lpe eRn hr rfl ?_;(conv=>whnf);refine amc [1000000000,1000000001] 300 he ?_;(conv=>whnf);refine⟨.inl rfl,⟨s6,s6,s6,s6,s6,s6,s6,s6,s6,s6,s6,s6,s6,s6,s6,s6,trivial⟩⟩
end MN
open Go Go.AM Go.Proofs TK
set_option maxRecDepth 100000
namespace MN
theorem step_val (K:Ks) (S:Ss) (zr:Sto Rn) (k:Nat) (r:Rn) (R:Ss×Rn) (q j:Nat) (l:List Fr) (f:Fr) (S2:Ss) (w:FV) (hr:tlk k zr.2=some r) (hc:r.cur.n=none) (hs:r.stack=some (q,j+1)) (hq:tlk q S.f.2=some l) (hj:l[j]?=some f) (hjb:j≤2000000)
 (hp:pushV S r.val f.vals=some (S2,w)) (hF:resumeF K S2 { r with stack:=some (q,j) } { f with vals:=w }=some R):
 AMem Tryz.prog 233 [.p (.adr rS k)] (hA K S zr) (.tup []) (hA K R.1 (zr.1,tset k R.2 zr.2)):=by
 have hrs:=resume_spec K S2 (zr.1,tset k { r with stack:=some (q,j) } zr.2) k { r with stack:=some (q,j) } { f with vals:=w } R (tlk_tset hr) hF;rw[tset_tset]at hrs;have hfg:=eFrs_get hj;have hen:∀M,sset k (eRn { r with stack:=some (q,j) }) (enM eRn M)=enM eRn (tset k { r with stack:=some (q,j) } M):=fun M=>sset_en eRn k _ M;have hwj:IntKind.i64.wrap (((j+1:Nat):Int)-1)=(j:Int):=by rw[wrap64 (by omega) (by omega)];omega
 obtain⟨r1,r2,r3,r4,r5,r6,r7,⟨c1,c2,c3,c4,c5⟩,⟨wk,wn,wt,wa,wc⟩,⟨o1,o2,o3,o4,o5,o6,o7,o8⟩,⟨p1,p2,p3,p4,p5⟩,r12⟩:=r;obtain⟨f1,f2,f3,f4,f5⟩:=f;obtain⟨So,Ssc,Sv,Sf,Sc0,Sg0⟩:=S;dsimp only at hc hs hp;subst hc;subst hs;unfold resumeF nodeF at hF;dsimp only at hF
 cases f1 with
 |none=>cases hF
 |some kn=>
  clear hF;unfold hA hRn hVb hFb cFr at *;dsimp only at *;rw[←hen]at hrs;have hr2:slk k (enM eRn zr.2)=some [.agg (.adr mS r1::.sl 1 (r2.map .s)::eP nS r3::.i .i64 r4::.sl 5 (eVs r5)::.i .i64 r6::.ads fS q (j+1)::([.nilp,eP sS c2,eFV c3,.i .i64 c4,.b c5]++(cV (.mk wk wn wt wa wc)++(cOu ⟨o1,o2,o3,o4,o5,o6,o7,o8⟩++(cFr ⟨p1,p2,p3,p4,p5⟩++[eP oS r12])))))]:=slk_in hr
  cases f3 with
  |lst x=>cases hp
  |nil=>
   cases hp;refine AMem.intro tySt_ok hmix Tryz.func233 rfl (by rfl) (by kernel_rfl) (by show 1≤_;decide) rfl ?_;(conv=>whnf);refine aneed ⟨rfl,by decide,.inl rfl⟩ ?_;refine⟨_,hr2,?_⟩;refine aidxn (i:=0) rfl ?_;(conv=>whnf);refine aneed ⟨rfl,by decide,.inl rfl⟩ ?_;refine⟨_,hr2,?_⟩;refine aidxn (i:=0) rfl ?_;(conv=>whnf);refine asf (show decide (IntKind.i64.wrap (((j+1:Nat):Int)-1)<0)=false by rw[hwj];exact decide_eq_false (by omega)) ?_;(conv=>whnf);refine aneed ⟨rfl,by decide,.inl rfl⟩ ?_;refine⟨_,hr2,?_⟩;refine aidxn (i:=0) rfl ?_;(conv=>whnf);refine aneed ⟨by rw[hwj];omega,by rw[hwj];simp⟩ ?_;rw[hwj];(conv=>whnf);refine aneed ⟨rfl,by decide,.inr rfl⟩ ?_;refine⟨_,slk_in hq,?_⟩;refine aidxn (i:=j) (x:=.agg [.adr nS kn,(eP sS f2),.nsl,.i .i64 f4,.b f5]) (hfg) ?_;(conv=>whnf);refine aneed ⟨rfl,by decide,.inl rfl⟩ ?_;refine⟨_,hr2,?_⟩;refine aidxn (i:=0) rfl ?_;(conv=>whnf);refine aneed ⟨by omega,by omega⟩ ?_;rw[Int.toNat_natCast];(conv=>whnf);refine aneed ⟨rfl,by decide,.inl rfl⟩ ?_;refine⟨_,hr2,?_⟩;refine aidxn (i:=0) rfl ?_;(conv=>whnf);refine aneed ⟨rfl,by decide,.inl rfl⟩ ?_;refine⟨_,slk_sset hr2,?_⟩;refine aidxn (i:=0) rfl ?_;(conv=>whnf);refine aneed ⟨Nat.succ_pos _,Nat.le_of_ble_eq_true (by kernel_rfl)⟩ ?_;(conv=>whnf);refine aneed (.inl (by kernel_rfl)) ?_;(conv=>whnf);refine amc iA 300 hrs ?_;(conv=>whnf);refine⟨.inl rfl,⟨s6,s6,s6,s6,s6,s6,s6,s6,s6,s6,s6,s6,s6,s6,s6,s6,trivial⟩⟩
  |blk kk m=>
   unfold pushV at hp;dsimp only at hp
   cases hL:tlk kk Sv.2 with
   |none=>rw[hL]at hp;cases hp
   |some L=>
    rw[hL]at hp;dsimp only at hp
    cases hg:Nat.ble m L.length&&Nat.ble m 1000000 with
    |false=>rw[hg]at hp;cases hp
    |true=>
     rw[hg]at hp;cases hp;rw[Bool.and_eq_true]at hg;have hg4:=Nat.le_of_ble_eq_true hg.1;have hg5:=Nat.le_of_ble_eq_true hg.2;dsimp only at hrs;rw[←vls_push]at hrs;refine AMem.intro tySt_ok hmix Tryz.func233 rfl (by rfl) (by kernel_rfl) (by show 1≤_;decide) rfl ?_;(conv=>whnf);refine aneed ⟨rfl,by decide,.inl rfl⟩ ?_;refine⟨_,hr2,?_⟩;refine aidxn (i:=0) rfl ?_;(conv=>whnf);refine aneed ⟨rfl,by decide,.inl rfl⟩ ?_;refine⟨_,hr2,?_⟩;refine aidxn (i:=0) rfl ?_;(conv=>whnf);refine asf (show decide (IntKind.i64.wrap (((j+1:Nat):Int)-1)<0)=false by rw[hwj];exact decide_eq_false (by omega)) ?_;(conv=>whnf);refine aneed ⟨rfl,by decide,.inl rfl⟩ ?_;refine⟨_,hr2,?_⟩;refine aidxn (i:=0) rfl ?_;(conv=>whnf);refine aneed ⟨by rw[hwj];omega,by rw[hwj];simp⟩ ?_;rw[hwj];(conv=>whnf);refine aneed ⟨rfl,by decide,.inr rfl⟩ ?_;refine⟨_,slk_in hq,?_⟩;refine aidxn (i:=j) (x:=.agg [.adr nS kn,(eP sS f2),(.ads vS kk m),.i .i64 f4,.b f5]) (hfg) ?_;(conv=>whnf);refine aneed ⟨rfl,by decide,.inl rfl⟩ ?_;refine⟨_,hr2,?_⟩;refine aidxn (i:=0) rfl ?_;(conv=>whnf);refine aneed ⟨by omega,by omega⟩ ?_;rw[Int.toNat_natCast];(conv=>whnf);refine aneed ⟨rfl,by decide,.inl rfl⟩ ?_;refine⟨_,hr2,?_⟩;refine aidxn (i:=0) rfl ?_;(conv=>whnf);refine aneed ⟨rfl,by decide,.inl rfl⟩ ?_;refine⟨_,slk_sset hr2,?_⟩;refine aidxn (i:=0) rfl ?_;(conv=>whnf);refine⟨rfl,_,slk_in hL,?_⟩;refine aneed ⟨by rw[eVs_map,List.length_map];exact hg4,Nat.le_trans (Nat.mul_le_mul_right _ (show m+1≤1000001 by omega)) (Nat.le_of_ble_eq_true (by kernel_rfl))⟩ ?_;(conv=>whnf);refine aneed (.inl (by kernel_rfl)) ?_;(conv=>whnf);refine amc iA 300 hrs ?_;(conv=>whnf);refine⟨.inl rfl,⟨s6,s6,s6,s6,s6,s6,s6,s6,s6,s6,s6,s6,s6,s6,s6,s6,trivial⟩⟩
theorem step_spec (K:Ks) (S:Ss) (zr:Sto Rn) (k:Nat) (r:Rn) (R:Ss×Rn) (hr:tlk k zr.2=some r) (hl:r.cur.n.isSome→r.cur.vals=.nil) (hF:stepF K S r=some R):
 AMem Tryz.prog 233 [.p (.adr rS k)] (hA K S zr) (.tup []) (hA K R.1 (zr.1,tset k R.2 zr.2)):=by
 cases hc:r.cur.n with
 |some kn=>exact step_cur K S zr k r R hr (by rw[hc];rfl) (hl (by rw[hc];rfl)) hF
 |none=>
  unfold stepF at hF;rw[hc]at hF;dsimp only at hF
  cases hs:r.stack with
  |none=>
   rw[hs]at hF;cases hF;exact step_end K S zr k r hr hc (.inl hs)
  |some q=>
   rw[hs]at hF;obtain⟨q,j⟩:=q
   cases j with
   |zero=>
    cases hF;exact step_end K S zr k r hr hc (.inr ⟨q,hs⟩)
   |succ j=>
    dsimp only at hF
    cases hq:tlk q S.f.2 with
    |none=>rw[hq]at hF;cases hF
    |some l=>
     rw[hq]at hF;dsimp only at hF
     cases hj:l[j]? with
     |none=>rw[hj]at hF;cases hF
     |some f=>
      rw[hj]at hF;dsimp only at hF
      cases hb:Nat.ble j 2000000 with
      |false=>rw[hb]at hF;cases hF
      |true=>
       rw[hb]at hF;dsimp only at hF
       cases hp:pushV S r.val f.vals with
       |none=>rw[hp]at hF;cases hF
       |some P=>
        rw[hp]at hF;obtain⟨S2,w⟩:=P;exact step_val K S zr k r R q j l f S2 w hr hc hs hq hj (Nat.le_of_ble_eq_true hb) hp hF
end MN
open Go Go.AM Go.Proofs TK
set_option maxRecDepth 100000
namespace MN
theorem curOK_nil {r:Rn} (h:curOK r=true) (hn:r.cur.n.isSome):r.cur.vals=.nil:=by
 unfold curOK at h;split at h
 ·rename_i h1;rw[h1]at hn;cases hn
 ·split at h
  ·assumption
  ·cases h
theorem run_spec (K:Ks) (S:Ss) (zr:Sto Rn) (k:Nat) (r:Rn) (n:Nat) (R:Ou×Ss×Rn) (hr:tlk k zr.2=some r) (hn:n≤1000000) (hF:runF K n S r=some R):
 AMem Tryz.prog 228 [.p (.adr rS k),.p (.i .i64 n)] (hA K S zr) (.p (.agg (cOu R.1))) (hA K R.2.1 (zr.1,tset k R.2.2 zr.2)):=by
 obtain⟨⟨q1,q2,q3,q4,q5,q6,q7,q8⟩,S9,r9⟩:=R;unfold hA cOu at *;dsimp only at *;refine AMem.intro (tyOf_ok Tryz.prog) hmix Tryz.func228 rfl (by rfl) (by kernel_rfl) (by show 2≤_;decide) rfl ?_;(conv=>whnf)
 cases n with
 |zero=>
  cases hF;(conv=>whnf);rw[tlk_id hr];refine⟨.inl rfl,⟨s6,s6,s6,s6,s6,s6,s6,s6,s6,s6,s6,s6,s6,s6,s6,s6,trivial⟩⟩
 |succ n=>
 refine loopS (tyOf_ok _) hmix (by kernel_rfl) (n+1) [0,1,4] (4::iA) (fun j (z:Ss×Rn)=>[.p (.adr rS k),.p (.i .i64 ((n+1-j:Nat):Int)),.ptr 4 0]) (fun j z=>.cells [.p (.i .i64 0),.p (.i .i64 0),.p (.s ⟨#[]⟩),.p (.i .i64 0),.p (.i .i64 0),.p (.s ⟨#[]⟩),.nilS,.nilS]::hObj K z.1 (zr.1,tset k z.2 zr.2)) (fun j z=>runF K (n+1-j) z.1 z.2=some (⟨q1,q2,q3,q4,q5,q6,q7,q8⟩,S9,r9)) (S,r) ⟨by dsimp only;rw[tlk_id hr];rfl,rfl,rfl,rfl⟩ hF ?_;rintro j ⟨S1,⟨a1,a2,a3,a4,a5,a6,a7,⟨d1,d2,d3,d4,d5⟩,⟨v1,v2,v3,v4,v5⟩,⟨l1,l2,l3,l4,l5,l6,l7,l8⟩,⟨e1,e2,e3,e4,e5⟩,a12⟩⟩ hj hQ;dsimp only at hQ
 cases hm:n+1-j with
 |zero=>
  rw[hm]at hQ;cases hQ;(conv=>whnf);refine⟨.inl rfl,⟨s6,s6,s6,s6,s6,s6,s6,s6,s6,s6,s6,s6,s6,s6,s6,s6,trivial⟩⟩
 |succ m=>
  rw[hm]at hQ;rw[runF]at hQ;(conv=>whnf);refine ast (show decide (((m+1:Nat):Int)>0)=true from decide_eq_true (by omega)) ?_;(conv=>whnf);have hr1:tlk k (tset k (⟨a1,a2,a3,a4,a5,a6,a7,⟨d1,d2,d3,d4,d5⟩,.mk v1 v2 v3 v4 v5,⟨l1,l2,l3,l4,l5,l6,l7,l8⟩,⟨e1,e2,e3,e4,e5⟩,a12⟩:Rn) zr.2)=some ⟨a1,a2,a3,a4,a5,a6,a7,⟨d1,d2,d3,d4,d5⟩,.mk v1 v2 v3 v4 v5,⟨l1,l2,l3,l4,l5,l6,l7,l8⟩,⟨e1,e2,e3,e4,e5⟩,a12⟩:=tlk_tset hr;dsimp only at hQ;refine lpe eRn hr1 rfl ?_;(conv=>whnf)
  cases he1:a6==1 with
  |true=>
   rw[he1,Bool.true_or]at hQ;cases hQ;(conv=>whnf);(conv=>whnf);refine lpe eRn hr1 rfl ?_;(conv=>whnf);refine⟨.inl rfl,⟨s6,s6,s6,s6,s6,s6,s6,s6,s6,s6,s6,s6,s6,s6,s6,s6,trivial⟩⟩
  |false=>
   rw[he1,Bool.false_or]at hQ;(conv=>whnf)
   cases he3:a6==3 with
   |true=>
    rw[he3]at hQ;cases hQ;(conv=>whnf);refine lpe eRn hr1 rfl ?_;(conv=>whnf);refine⟨.inl rfl,⟨s6,s6,s6,s6,s6,s6,s6,s6,s6,s6,s6,s6,s6,s6,s6,s6,trivial⟩⟩
   |false=>
    rw[he3]at hQ;dsimp only at hQ;(conv=>whnf)
    cases he2:a6==2 with
    |true=>
     rw[he2]at hQ;cases hQ;(conv=>whnf);refine⟨.inl rfl,⟨s6,s6,s6,s6,s6,s6,s6,s6,s6,s6,s6,s6,s6,s6,s6,s6,trivial⟩⟩
    |false=>
     rw[he2]at hQ;dsimp only at hQ;(conv=>whnf)
     cases hok:curOK ⟨a1,a2,a3,a4,a5,a6,a7,⟨d1,d2,d3,d4,d5⟩,.mk v1 v2 v3 v4 v5,⟨l1,l2,l3,l4,l5,l6,l7,l8⟩,⟨e1,e2,e3,e4,e5⟩,a12⟩ with
     |false=>rw[hok]at hQ;cases hQ
     |true=>
      rw[hok]at hQ;dsimp only at hQ
      cases hst:stepF K S1 ⟨a1,a2,a3,a4,a5,a6,a7,⟨d1,d2,d3,d4,d5⟩,.mk v1 v2 v3 v4 v5,⟨l1,l2,l3,l4,l5,l6,l7,l8⟩,⟨e1,e2,e3,e4,e5⟩,a12⟩ with
      |none=>rw[hst]at hQ;cases hQ
      |some P=>
       rw[hst]at hQ;have hsp:=step_spec K S1 (zr.1,tset k ⟨a1,a2,a3,a4,a5,a6,a7,⟨d1,d2,d3,d4,d5⟩,.mk v1 v2 v3 v4 v5,⟨l1,l2,l3,l4,l5,l6,l7,l8⟩,⟨e1,e2,e3,e4,e5⟩,a12⟩ zr.2) k ⟨a1,a2,a3,a4,a5,a6,a7,⟨d1,d2,d3,d4,d5⟩,.mk v1 v2 v3 v4 v5,⟨l1,l2,l3,l4,l5,l6,l7,l8⟩,⟨e1,e2,e3,e4,e5⟩,a12⟩ P hr1 (curOK_nil hok) hst;rw[tset_tset]at hsp;obtain⟨S2,r2⟩:=P;dsimp only at hQ hsp;have hr2:tlk k (tset k r2 zr.2)=some r2:=tlk_tset hr;unfold hA at hsp;refine amc iA 300 hsp ?_;(conv=>whnf)
       cases ho:r2.out with
       |none=>
        rw[ho]at hQ;dsimp only at hQ;obtain⟨b1,b2,b3,b4,b5,b6,b7,⟨c1,c2,c3,c4,c5⟩,⟨wk,wn,wt,wa,wc⟩,⟨o1,o2,o3,o4,o5,o6,o7,o8⟩,⟨p1,p2,p3,p4,p5⟩,b12⟩:=r2;dsimp only at ho;subst ho;refine lpe eRn hr2 rfl ?_;(conv=>whnf);refine⟨by omega,(S2,_),⟨rfl,?_,rfl,rfl⟩,by rw[show n+1-(j+1)=m by omega];exact hQ⟩;dsimp only;rw[show n+1-(j+1)=m by omega];show [AV.p (.adr rS k),.p (.i .i64 (IntKind.i64.wrap (((m+1:Nat):Int)-1))),.ptr 4 0]=_;rw[wrap64 (by omega) (by omega)];rw[show((m+1:Nat):Int)-1=(m:Int) by omega]
       |some a=>
        rw[ho]at hQ;dsimp only at hQ
        cases hO:tlk a S2.o.2 with
        |none=>rw[hO]at hQ;cases hQ
        |some o=>
         rw[hO]at hQ;cases hQ;obtain⟨b1,b2,b3,b4,b5,b6,b7,⟨c1,c2,c3,c4,c5⟩,⟨wk,wn,wt,wa,wc⟩,⟨o1,o2,o3,o4,o5,o6,o7,o8⟩,⟨p1,p2,p3,p4,p5⟩,b12⟩:=r2;dsimp only at ho;subst ho;refine lpe eRn hr2 rfl ?_;(conv=>whnf);refine lpe eRn hr2 rfl ?_;(conv=>whnf);refine aneed ⟨rfl,by decide,.inl rfl⟩ ?_;refine⟨_,slk_in (enc:=eOu) hO,?_⟩;refine aidxn (i:=0) rfl ?_;(conv=>whnf);refine lpe eRn hr2 rfl ?_;(conv=>whnf);refine⟨.inl rfl,⟨⟨rfl,rfl,rfl,rfl,rfl,?_⟩,s6,s6,s6,s6,s6,s6,s6,s6,s6,s6,s6,s6,s6,s6,s6,trivial⟩⟩;exact(sset_en eRn k ⟨b1,b2,b3,b4,b5,b6,b7,⟨c1,c2,c3,c4,c5⟩,.mk wk wn wt wa wc,⟨o1,o2,o3,o4,o5,o6,o7,o8⟩,⟨p1,p2,p3,p4,p5⟩,none⟩ _).trans (by rw[tset_tset])
end MN
