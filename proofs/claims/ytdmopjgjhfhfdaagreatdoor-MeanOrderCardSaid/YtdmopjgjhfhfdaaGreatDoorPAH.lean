/- Contracts, and the law, for every input. No conditions. -/
import Derived.Test.YtdmopjgjhfhfdaaGreatDoorPAA
open Go Go.AM Go.Proofs TK TR
set_option maxRecDepth 100000
namespace PA
theorem single_in {T:List Tk} {a:Nat} (h:(singleF (B (lookF T a).text)==0)=false):a<T.length:=by
 by_cases q:a<T.length
 ·exact q
 ·have:lookF T a=⟨0,[],0⟩:=by unfold lookF;rw[List.getElem?_eq_none (by omega)]
  rw[this]at h;have q:(singleF (B [])==0)=true:=by kernel_rfl
  exact absurd (q.symm.trans h) (by decide)
def oneF (T:List Tk) (en:Int) (Es:Nat→PR Ex) (a:Nat):PR Ex:=bif singleF (B (lookF T a).text)==0 then .error (placeF T en a) else bindP (wantF T en [opn] (a+1)) fun _ b=>bindP (Es b) fun x c=>bindP (wantF T en [cls] c) fun _ d=>.ok (.mk (singleF (B (lookF T a).text)) 0 empS [] [] [x] [] 0,d)
theorem one_lt {T:List Tk} {en:Int} {Es:Nat→PR Ex} (hE:∀b,ltP T b (Es b)) (a:Nat):ltP T a (oneF T en Es a):=by
 unfold oneF
 cases h:singleF (B (lookF T a).text)==0 with
 |true=>exact ltP_err
 |false=>exact ltP_step (Nat.lt_succ_self a) (leP_bind (want_le T en _ (a+1) (single_in h)) fun _ b _ _ hb=>leP_bind (hE b).le fun x c _ _ hc=>leP_bind (want_le T en _ c hc) fun _ d _ _ hd=>leP_ok (Nat.le_refl _) hd)
def wordE (T:List Tk) (en:Int) (Es:Nat→PR Ex) (a:Nat):PR Ex:=
 bif isF T ⟨#[116,114,117,101]⟩ a then .ok (.mk 3 1 empS [] [] [] [] 0,a+1) else
 bif isF T ⟨#[102,97,108,115,101]⟩ a then .ok (.mk 3 0 empS [] [] [] [] 0,a+1) else
 bif isF T ⟨#[115,101,108,102]⟩ a then .ok (.mk 16 0 empS [] [] [] [] 0,a+1) else
 bif isF T ⟨#[108,101,116]⟩ a then bindP (kindF T en 1 (a+1)) fun s b=>bindP (wantF T en [⟨#[61]⟩] b) fun _ c=>bindP (Es c) fun x d=>bindP (wantF T en [⟨#[105,110]⟩] d) fun _ e=>bindP (Es e) fun y f=>.ok (.mk 6 0 s [] [] [x,y] [] 0,f) else
 bif isF T ⟨#[105,102]⟩ a then bindP (Es (a+1)) fun x b=>bindP (wantF T en [⟨#[116,104,101,110]⟩] b) fun _ c=>bindP (Es c) fun y d=>bindP (wantF T en [⟨#[101,108,115,101]⟩] d) fun _ e=>bindP (Es e) fun z f=>.ok (.mk 7 0 empS [] [] [x,y,z] [] 0,f) else
 bif isF T ⟨#[97,112,112,108,121]⟩ a then bindP (wantF T en [opn] (a+1)) fun _ b=>bindP (listF T Es b) fun l c=>bindP (wantF T en [cls] c) fun _ d=>.ok (.mk 11 0 empS [] [] l [] 0,d) else
 bif isF T ⟨#[109,97,116,99,104]⟩ a then bindP (Es (a+1)) fun x b=>bindP (wantF T en [⟨#[123]⟩] b) fun _ c=>bindP (armsF T en Es c) fun ms d=>.ok (.mk 13 0 empS [] [] [x] ms 0,d) else
 bif isF T ⟨#[114,101,99,101,105,118,101]⟩ a then receiveF T en Es (a+1) else
 bif isF T ⟨#[115,112,97,119,110]⟩ a then bindP (kindF T en 2 (a+1)) fun s b=>bindP (insideF T en Es b) fun l c=>.ok (.mk 14 0 s [] [] l [] 0,c) else
 bif isF T ⟨#[98,101,99,111,109,101]⟩ a then bindP (insideF T en Es (a+1)) fun l b=>.ok (.mk 17 0 empS [] [] l [] 0,b) else
 bif isF T ⟨#[115,101,110,100]⟩ a then twoF T en Es 15 (a+1) else
 bif isF T ⟨#[112,117,116]⟩ a then twoF T en Es 23 (a+1) else
 oneF T en Es a
theorem word_lt {T:List Tk} {en:Int} {Es:Nat→PR Ex} (hE:∀b,ltP T b (Es b)) (a:Nat):ltP T a (wordE T en Es a):=by
 unfold wordE
 cases hi:isF T ⟨#[116,114,117,101]⟩ a with
 |true=>
  replace hi:=isF_in hi;exact ltP_in hi
 |false=>
  rw[cond_false];clear hi
  cases hi:isF T ⟨#[102,97,108,115,101]⟩ a with
  |true=>
   replace hi:=isF_in hi;exact ltP_in hi
  |false=>
   rw[cond_false];clear hi
   cases hi:isF T ⟨#[115,101,108,102]⟩ a with
   |true=>
    replace hi:=isF_in hi;exact ltP_in hi
   |false=>
    rw[cond_false];clear hi
    cases hi:isF T ⟨#[108,101,116]⟩ a with
    |true=>
     replace hi:=isF_in hi;exact ltP_step (Nat.lt_succ_self a) (leP_bind (kind_lt T en 1 (by decide) (a+1)).le fun s b _ _ hb=>leP_bind (want_le T en _ b hb) fun _ c _ _ hc=>leP_bind (hE c).le fun x d _ _ hd=>leP_bind (want_le T en _ d hd) fun _ e _ _ he=>leP_bind (hE e).le fun y f _ _ hf=>leP_ok (Nat.le_refl _) hf)
    |false=>
     rw[cond_false];clear hi
     cases hi:isF T ⟨#[105,102]⟩ a with
     |true=>
      replace hi:=isF_in hi;exact ltP_step (Nat.lt_succ_self a) (leP_bind (hE (a+1)).le fun x b _ _ hb=>leP_bind (want_le T en _ b hb) fun _ c _ _ hc=>leP_bind (hE c).le fun y d _ _ hd=>leP_bind (want_le T en _ d hd) fun _ e _ _ he=>leP_bind (hE e).le fun z f _ _ hf=>leP_ok (Nat.le_refl _) hf)
     |false=>
      rw[cond_false];clear hi
      cases hi:isF T ⟨#[97,112,112,108,121]⟩ a with
      |true=>
       replace hi:=isF_in hi;exact ltP_step (Nat.lt_succ_self a) (leP_bind (want_le T en _ (a+1) hi) fun _ b _ _ hb=>leP_bind (list_lt hE b).le fun l c _ _ hc=>leP_bind (want_le T en _ c hc) fun _ d _ _ hd=>leP_ok (Nat.le_refl _) hd)
      |false=>
       rw[cond_false];clear hi
       cases hi:isF T ⟨#[109,97,116,99,104]⟩ a with
       |true=>
        replace hi:=isF_in hi;exact ltP_step (Nat.lt_succ_self a) (leP_bind (hE (a+1)).le fun x b _ _ hb=>leP_bind (want_le T en _ b hb) fun _ c _ _ hc=>leP_bind (arms_lt hE c).le fun ms d _ _ hd=>leP_ok (Nat.le_refl _) hd)
       |false=>
        rw[cond_false];clear hi
        cases hi:isF T ⟨#[114,101,99,101,105,118,101]⟩ a with
        |true=>
         replace hi:=isF_in hi;exact ltP_step (Nat.lt_succ_self a) (receive_lt hE (a+1)).le
        |false=>
         rw[cond_false];clear hi
         cases hi:isF T ⟨#[115,112,97,119,110]⟩ a with
         |true=>
          replace hi:=isF_in hi;exact ltP_step (Nat.lt_succ_self a) (leP_bind (kind_lt T en 2 (by decide) (a+1)).le fun s b _ _ hb=>leP_bind (inside_lt hE b).le fun l c _ _ hc=>leP_ok (Nat.le_refl _) hc)
         |false=>
          rw[cond_false];clear hi
          cases hi:isF T ⟨#[98,101,99,111,109,101]⟩ a with
          |true=>
           replace hi:=isF_in hi;exact ltP_step (Nat.lt_succ_self a) (leP_bind (inside_lt hE (a+1)).le fun l c _ _ hc=>leP_ok (Nat.le_refl _) hc)
          |false=>
           rw[cond_false];clear hi
           cases hi:isF T ⟨#[115,101,110,100]⟩ a with
           |true=>
            replace hi:=isF_in hi;exact ltP_step (Nat.lt_succ_self a) (two_lt hE 15 (a+1)).le
           |false=>
            rw[cond_false];clear hi
            cases hi:isF T ⟨#[112,117,116]⟩ a with
            |true=>
             replace hi:=isF_in hi;exact ltP_step (Nat.lt_succ_self a) (two_lt hE 23 (a+1)).le
            |false=>
             rw[cond_false];clear hi;exact one_lt hE a
theorem word_spec {G:Nat} {tab:List Value} (hPI:PIC G tab) (T:List Tk) (hT:TOK T) (en:Int) (Es:Nat→PR Ex) (hlt:∀b,ltP T b (Es b)) (z a:Nat) (hz:z≤a) (ha:a≤T.length) (hE:ESpec G tab T en Es z):AMemO Tryz.prog 163 [.ptr 1000000000 0] (hG G tab T en a) (oG G tab T en (fun y=>.p (eE y)) (wordE T en Es a)):=by
 have hlen:=hT.len;generalize hx:wordE T en Es a=X;unfold wordE at hx;refine oIG Tryz.func163 rfl (by rfl) (by show 1≤_;decide) (fun _=>rfl) (by kernel_rfl) ?_;intro hX;(conv=>whnf);refine oL 500 (take_spec T hlen en a ha ⟨#[116,114,117,101]⟩) ?_;(conv=>whnf);unfold takeF
 cases h0:isF T ⟨#[116,114,117,101]⟩ a with
 |true=>
  have:=isF_in h0;rw[h0,cond_true]at hx;(conv=>whnf);subst hx;exact⟨.inl rfl,ob_refl _,⟨rfl,rfl⟩,trivial⟩
 |false=>
  rw[h0,cond_false]at hx;(conv=>whnf);refine oL 500 (take_spec T hlen en a ha ⟨#[102,97,108,115,101]⟩) ?_;(conv=>whnf);unfold takeF
  cases h1:isF T ⟨#[102,97,108,115,101]⟩ a with
  |true=>
   have:=isF_in h1;rw[h1,cond_true]at hx;(conv=>whnf);subst hx;exact⟨.inl rfl,ob_refl _,⟨rfl,rfl⟩,trivial⟩
  |false=>
   rw[h1,cond_false]at hx;(conv=>whnf);refine oL 500 (take_spec T hlen en a ha ⟨#[115,101,108,102]⟩) ?_;(conv=>whnf);unfold takeF
   cases h2:isF T ⟨#[115,101,108,102]⟩ a with
   |true=>
    have:=isF_in h2;rw[h2,cond_true]at hx;(conv=>whnf);subst hx;exact⟨.inl rfl,ob_refl _,⟨rfl,rfl⟩,trivial⟩
   |false=>
    rw[h2,cond_false]at hx;(conv=>whnf);refine oL 500 (take_spec T hlen en a ha ⟨#[108,101,116]⟩) ?_;(conv=>whnf);unfold takeF
    cases h3:isF T ⟨#[108,101,116]⟩ a with
    |true=>
     have:=isF_in h3;rw[h3,cond_true]at hx;(conv=>whnf);refine oC 500 (low_spec T hlen en (a+1) (by omega)) (fun p hp=>?_) (fun s b hy=>?_)
     ·rw[hp]at hx;subst hx;exact okE hX
     rw[hy,bindP_ok]at hx;(conv=>whnf);obtain⟨q1,q2⟩:=kind_lt T en 1 (by decide) (a+1) s b hy;refine oC 500 (want_spec T hlen en b q2 [⟨#[61]⟩] (by decide)) (fun p hp=>?_) (fun u c hy=>?_)
     ·rw[hp]at hx;subst hx;exact okE hX
     rw[hy,bindP_ok]at hx;(conv=>whnf);obtain⟨q3,q4⟩:=want_le T en _ b q2 u c hy;refine oCG 1000000001 500 (hE c (by omega) q4) (fun p hp=>?_) (fun x d hy=>?_)
     ·rw[hp]at hx;subst hx;exact okE hX
     rw[hy,bindP_ok]at hx;(conv=>whnf);obtain⟨q5,q6⟩:=hlt c x d hy;obtain⟨xk,xn,xt,xns,xts,xxs,xms,xp⟩:=x;(conv=>whnf);refine oC 500 (want_spec T hlen en d q6 [⟨#[105,110]⟩] (by decide)) (fun p hp=>?_) (fun u e hy=>?_)
     ·rw[hp]at hx;subst hx;exact okE hX
     rw[hy,bindP_ok]at hx;(conv=>whnf);obtain⟨q7,q8⟩:=want_le T en _ d q6 u e hy;refine oCG 1000000001 500 (hE e (by omega) q8) (fun p hp=>?_) (fun y f hy=>?_)
     ·rw[hp]at hx;subst hx;exact okE hX
     rw[hy,bindP_ok]at hx;obtain⟨yk,yn,yt,yns,yts,yxs,yms,yp⟩:=y;(conv=>whnf)
     first|refine aneed (.inl (by kernel_rfl)) ?_|refine aneed (by kernel_rfl) ?_
     (conv=>whnf);subst hx;exact⟨.inl rfl,ob_refl _,⟨rfl,rfl⟩,trivial⟩
    |false=>
     rw[h3,cond_false]at hx;(conv=>whnf);refine oL 500 (take_spec T hlen en a ha ⟨#[105,102]⟩) ?_;(conv=>whnf);unfold takeF
     cases h4:isF T ⟨#[105,102]⟩ a with
     |true=>
      have:=isF_in h4;rw[h4,cond_true]at hx;(conv=>whnf);refine oCG 1000000001 500 (hE (a+1) (by omega) (by omega)) (fun p hp=>?_) (fun x b hy=>?_)
      ·rw[hp]at hx;subst hx;exact okE hX
      rw[hy,bindP_ok]at hx;(conv=>whnf);obtain⟨q1,q2⟩:=hlt (a+1) x b hy;obtain⟨xk,xn,xt,xns,xts,xxs,xms,xp⟩:=x;(conv=>whnf);refine oC 500 (want_spec T hlen en b q2 [⟨#[116,104,101,110]⟩] (by decide)) (fun p hp=>?_) (fun u c hy=>?_)
      ·rw[hp]at hx;subst hx;exact okE hX
      rw[hy,bindP_ok]at hx;(conv=>whnf);obtain⟨q3,q4⟩:=want_le T en _ b q2 u c hy;refine oCG 1000000001 500 (hE c (by omega) q4) (fun p hp=>?_) (fun y d hy=>?_)
      ·rw[hp]at hx;subst hx;exact okE hX
      rw[hy,bindP_ok]at hx;(conv=>whnf);obtain⟨q5,q6⟩:=hlt c y d hy;obtain⟨yk,yn,yt,yns,yts,yxs,yms,yp⟩:=y;(conv=>whnf);refine oC 500 (want_spec T hlen en d q6 [⟨#[101,108,115,101]⟩] (by decide)) (fun p hp=>?_) (fun u e hy=>?_)
      ·rw[hp]at hx;subst hx;exact okE hX
      rw[hy,bindP_ok]at hx;(conv=>whnf);obtain⟨q7,q8⟩:=want_le T en _ d q6 u e hy;refine oCG 1000000001 500 (hE e (by omega) q8) (fun p hp=>?_) (fun v f hy=>?_)
      ·rw[hp]at hx;subst hx;exact okE hX
      rw[hy,bindP_ok]at hx;obtain⟨vk,vn,vt,vns,vts,vxs,vms,vp⟩:=v;(conv=>whnf)
      first|refine aneed (.inl (by kernel_rfl)) ?_|refine aneed (by kernel_rfl) ?_
      (conv=>whnf);subst hx;exact⟨.inl rfl,ob_refl _,⟨rfl,rfl⟩,trivial⟩
     |false=>
      rw[h4,cond_false]at hx;(conv=>whnf);refine oL 500 (take_spec T hlen en a ha ⟨#[97,112,112,108,121]⟩) ?_;(conv=>whnf);unfold takeF
      cases h5:isF T ⟨#[97,112,112,108,121]⟩ a with
      |true=>
       have:=isF_in h5;rw[h5,cond_true]at hx;(conv=>whnf);refine oC 500 (want_spec T hlen en (a+1) (by omega) [opn] (by decide)) (fun p hp=>?_) (fun u b hy=>?_)
       ·rw[hp]at hx;subst hx;exact okE hX
       rw[hy,bindP_ok]at hx;(conv=>whnf);obtain⟨q1,q2⟩:=want_le T en _ (a+1) (by omega) u b hy;refine oCG 1000000001 500 (listE_spec T hlen en 103 Es hlt b q2 (fun z h3 h4=>hE z (by omega) h4)) (fun p hp=>?_) (fun l c hy=>?_)
       ·rw[hp]at hx;subst hx;exact okE hX
       rw[hy,bindP_ok]at hx;(conv=>whnf);obtain⟨q3,q4⟩:=list_lt hlt b l c hy;refine oC 500 (want_spec T hlen en c q4 [cls] (by decide)) (fun p hp=>?_) (fun u d hy=>?_)
       ·rw[hp]at hx;subst hx;exact okE hX
       rw[hy,bindP_ok]at hx;(conv=>whnf);subst hx;refine⟨?_,ob_refl _,⟨rfl,rfl⟩,trivial⟩
       left
       show _=AV.p (.agg [.i .i64 11,.i .i64 0,.s _,.sl 1 [],.sl 3 [],.sl 8 (eEs l),.sl 12 [],.i .i64 0]);rw[eEs_map l];rfl
      |false=>
       rw[h5,cond_false]at hx;(conv=>whnf);refine oL 500 (take_spec T hlen en a ha ⟨#[109,97,116,99,104]⟩) ?_;(conv=>whnf);unfold takeF
       cases h6:isF T ⟨#[109,97,116,99,104]⟩ a with
       |true=>
        have:=isF_in h6;rw[h6,cond_true]at hx;(conv=>whnf);refine oCG 1000000001 500 (hE (a+1) (by omega) (by omega)) (fun p hp=>?_) (fun x b hy=>?_)
        ·rw[hp]at hx;subst hx;exact okE hX
        rw[hy,bindP_ok]at hx;(conv=>whnf);obtain⟨q1,q2⟩:=hlt (a+1) x b hy;obtain⟨xk,xn,xt,xns,xts,xxs,xms,xp⟩:=x;(conv=>whnf);refine oC 500 (want_spec T hlen en b q2 [⟨#[123]⟩] (by decide)) (fun p hp=>?_) (fun u c hy=>?_)
        ·rw[hp]at hx;subst hx;exact okE hX
        rw[hy,bindP_ok]at hx;(conv=>whnf);obtain⟨q3,q4⟩:=want_le T en _ b q2 u c hy;refine oCG 1000000001 500 (arms_spec hPI T hT en Es hlt z c (by omega) q4 hE) (fun p hp=>?_) (fun ms d hy=>?_)
        ·rw[hp]at hx;subst hx;exact okE hX
        rw[hy,bindP_ok]at hx;(conv=>whnf);subst hx;refine⟨?_,ob_refl _,⟨rfl,rfl⟩,trivial⟩
        left
        show _=AV.p (.agg [.i .i64 13,.i .i64 0,.s _,.sl 1 [],.sl 3 [],.sl 8 _,.sl 12 (eAs ms),.i .i64 0]);rw[eAs_map ms];rfl
       |false=>
        rw[h6,cond_false]at hx;(conv=>whnf);refine oL 500 (take_spec T hlen en a ha ⟨#[114,101,99,101,105,118,101]⟩) ?_;(conv=>whnf);unfold takeF
        cases h7:isF T ⟨#[114,101,99,101,105,118,101]⟩ a with
        |true=>
         have:=isF_in h7;rw[h7,cond_true]at hx;(conv=>whnf);refine oCG 1000000001 500 (receive_spec hPI T hT en Es hlt z (a+1) (by omega) (by omega) hE) (fun p hp=>?_) (fun y b hy=>?_)
         ·rw[hp]at hx;subst hx;exact okE hX
         rw[hy]at hx;obtain⟨yk,yn,yt,yns,yts,yxs,yms,yp⟩:=y;(conv=>whnf);subst hx;exact⟨.inl rfl,ob_refl _,⟨rfl,rfl⟩,trivial⟩
        |false=>
         rw[h7,cond_false]at hx;(conv=>whnf);refine oL 500 (take_spec T hlen en a ha ⟨#[115,112,97,119,110]⟩) ?_;(conv=>whnf);unfold takeF
         cases h8:isF T ⟨#[115,112,97,119,110]⟩ a with
         |true=>
          have:=isF_in h8;rw[h8,cond_true]at hx;(conv=>whnf);refine oC 500 (up_spec T hlen en (a+1) (by omega)) (fun p hp=>?_) (fun s b hy=>?_)
          ·rw[hp]at hx;subst hx;exact okE hX
          rw[hy,bindP_ok]at hx;(conv=>whnf);obtain⟨q1,q2⟩:=kind_lt T en 2 (by decide) (a+1) s b hy;refine oCG 1000000001 500 (insideE_spec T hlen en 103 Es hlt b q2 (fun z h3 h4=>hE z (by omega) h4)) (fun p hp=>?_) (fun l c hy=>?_)
          ·rw[hp]at hx;subst hx;exact okE hX
          rw[hy,bindP_ok]at hx;(conv=>whnf);subst hx;refine⟨?_,ob_refl _,⟨rfl,rfl⟩,trivial⟩
          left
          show _=AV.p (.agg [.i .i64 14,.i .i64 0,.s _,.sl 1 [],.sl 3 [],.sl 8 (eEs l),.sl 12 [],.i .i64 0]);rw[eEs_map l];rfl
         |false=>
          rw[h8,cond_false]at hx;(conv=>whnf);refine oL 500 (take_spec T hlen en a ha ⟨#[98,101,99,111,109,101]⟩) ?_;(conv=>whnf);unfold takeF
          cases h9:isF T ⟨#[98,101,99,111,109,101]⟩ a with
          |true=>
           have:=isF_in h9;rw[h9,cond_true]at hx;(conv=>whnf);refine oCG 1000000001 500 (insideE_spec T hlen en 103 Es hlt (a+1) (by omega) (fun z h3 h4=>hE z (by omega) h4)) (fun p hp=>?_) (fun l c hy=>?_)
           ·rw[hp]at hx;subst hx;exact okE hX
           rw[hy,bindP_ok]at hx;(conv=>whnf);subst hx;refine⟨?_,ob_refl _,⟨rfl,rfl⟩,trivial⟩
           left
           show _=AV.p (.agg [.i .i64 17,.i .i64 0,.s _,.sl 1 [],.sl 3 [],.sl 8 (eEs l),.sl 12 [],.i .i64 0]);rw[eEs_map l];rfl
          |false=>
           rw[h9,cond_false]at hx;(conv=>whnf);refine oL 500 (take_spec T hlen en a ha ⟨#[115,101,110,100]⟩) ?_;(conv=>whnf);unfold takeF
           cases h10:isF T ⟨#[115,101,110,100]⟩ a with
           |true=>
            have:=isF_in h10;rw[h10,cond_true]at hx;(conv=>whnf);refine oCG 1000000001 500 (two_spec T hlen en Es hlt 15 (a+1) (by omega) (fun w h1 h2=>hE w (by omega) h2)) (fun p hp=>?_) (fun y b hy=>?_)
            ·rw[hp]at hx;subst hx;exact okE hX
            rw[hy]at hx;obtain⟨yk,yn,yt,yns,yts,yxs,yms,yp⟩:=y;(conv=>whnf);subst hx;exact⟨.inl rfl,ob_refl _,⟨rfl,rfl⟩,trivial⟩
           |false=>
            rw[h10,cond_false]at hx;(conv=>whnf);refine oL 500 (take_spec T hlen en a ha ⟨#[112,117,116]⟩) ?_;(conv=>whnf);unfold takeF
            cases h11:isF T ⟨#[112,117,116]⟩ a with
            |true=>
             have:=isF_in h11;rw[h11,cond_true]at hx;(conv=>whnf);refine oCG 1000000001 500 (two_spec T hlen en Es hlt 23 (a+1) (by omega) (fun w h1 h2=>hE w (by omega) h2)) (fun p hp=>?_) (fun y b hy=>?_)
             ·rw[hp]at hx;subst hx;exact okE hX
             rw[hy]at hx;obtain⟨yk,yn,yt,yns,yts,yxs,yms,yp⟩:=y;(conv=>whnf);subst hx;exact⟨.inl rfl,ob_refl _,⟨rfl,rfl⟩,trivial⟩
            |false=>
             rw[h11,cond_false]at hx;(conv=>whnf);unfold oneF at hx;refine oL 500 (look_spec T hlen en a ha) ?_;(conv=>whnf);refine apc (single_spec _) ?_;(conv=>whnf)
             cases h12:singleF (B (lookF T a).text)==0 with
             |true=>
              rw[h12,cond_true]at hx;(conv=>whnf);subst hx;exact(okE hX).elim
             |false=>
              have:=single_in h12;have hw:IntKind.i64.wrap ((a:Int)+1)=((a+1:Nat):Int):=by rw[wrap64 (by omega) (by omega)];rfl
              rw[h12,cond_false]at hx;(conv=>whnf);rw[hw];refine oC 500 (want_spec T hlen en (a+1) (by omega) [opn] (by decide)) (fun p hp=>?_) (fun u b hy=>?_)
              ·rw[hp]at hx;subst hx;exact okE hX
              rw[hy,bindP_ok]at hx;(conv=>whnf);obtain⟨q1,q2⟩:=want_le T en _ (a+1) (by omega) u b hy;refine oCG 1000000001 500 (hE b (by omega) q2) (fun p hp=>?_) (fun x c hy=>?_)
              ·rw[hp]at hx;subst hx;exact okE hX
              rw[hy,bindP_ok]at hx;(conv=>whnf);obtain⟨q3,q4⟩:=hlt b x c hy;obtain⟨xk,xn,xt,xns,xts,xxs,xms,xp⟩:=x;(conv=>whnf);refine oC 500 (want_spec T hlen en c q4 [cls] (by decide)) (fun p hp=>?_) (fun u d hy=>?_)
              ·rw[hp]at hx;subst hx;exact okE hX
              rw[hy,bindP_ok]at hx;(conv=>whnf);subst hx;exact⟨.inl rfl,ob_refl _,⟨rfl,rfl⟩,trivial⟩
end PA
open Go Go.AM Go.Proofs TK TR
set_option maxRecDepth 100000
namespace PA
def formF (T:List Tk) (en:Int) (Es:Nat→PR Ex) (a:Nat):PR Ex:=
 bif (lookF T a).kind==4 then bindP (numF T en false a) fun v b=>.ok (.mk 2 v empS [] [] [] [] 0,b) else
 bif (lookF T a).kind==5 then .ok (.mk 4 0 (B (lookF T a).text) [] [] [] [] 0,a+1) else
 bif (lookF T a).kind==1 then bif isF T opn (a+1) then bindP (insideF T en Es (a+1)) fun l b=>.ok (.mk 9 0 (B (lookF T a).text) [] [] l [] 0,b) else .ok (.mk 5 0 (B (lookF T a).text) [] [] [] [] 0,a+1) else
 bif (lookF T a).kind==2 then bindP (maybeF T en Es (a+1)) fun l b=>.ok (.mk 12 0 (B (lookF T a).text) [] [] l [] 0,b) else
 bif (lookF T a).kind==6 then bif isF T ⟨#[45]⟩ a then bindP (numF T en true a) fun v b=>.ok (.mk 2 v empS [] [] [] [] 0,b) else bif isF T opn a then bracketF T en Es (a+1) else .error (placeF T en a) else
 bif (lookF T a).kind==3 then wordE T en Es a else .error (placeF T en a)
theorem kind_in {T:List Tk} {a:Nat} {k:Int} (hk:k≠0) (h:((lookF T a).kind==k)=true):a<T.length:=look_in (by rw[eq_of_beq h];exact hk)
theorem form_lt {T:List Tk} {en:Int} {Es:Nat→PR Ex} (hE:∀b,ltP T b (Es b)) (a:Nat):ltP T a (formF T en Es a):=by
 unfold formF
 cases h1:(lookF T a).kind==4 with
 |true=>exact leP_lt (num_lt T en false a) fun v b _ _ hb=>leP_ok (Nat.le_refl _) hb
 |false=>
  rw[cond_false]
  cases h2:(lookF T a).kind==5 with
  |true=>exact ltP_in (kind_in (by decide) h2)
  |false=>
   rw[cond_false]
   cases h3:(lookF T a).kind==1 with
   |true=>
    rw[cond_true]
    cases h4:isF T opn (a+1) with
    |true=>exact ltP_step (Nat.lt_succ_self a) (leP_bind (inside_lt hE (a+1)).le fun l b _ _ hb=>leP_ok (Nat.le_refl _) hb)
    |false=>exact ltP_in (kind_in (by decide) h3)
   |false=>
    rw[cond_false]
    cases h5:(lookF T a).kind==2 with
    |true=>exact ltP_step (Nat.lt_succ_self a) (leP_bind (maybe_le hE (a+1) (kind_in (by decide) h5)) fun l b _ _ hb=>leP_ok (Nat.le_refl _) hb)
    |false=>
     rw[cond_false]
     cases h6:(lookF T a).kind==6 with
     |true=>
      rw[cond_true]
      cases h7:isF T ⟨#[45]⟩ a with
      |true=>exact leP_lt (num_lt T en true a) fun v b _ _ hb=>leP_ok (Nat.le_refl _) hb
      |false=>
       rw[cond_false]
       cases h8:isF T opn a with
       |true=>exact ltP_step (Nat.lt_succ_self a) (bracket_lt hE (a+1)).le
       |false=>exact ltP_err
     |false=>
      rw[cond_false]
      cases h9:(lookF T a).kind==3 with
      |true=>exact word_lt hE a
      |false=>exact ltP_err
theorem form_spec {G:Nat} {tab:List Value} (hPI:PIC G tab) (T:List Tk) (hT:TOK T) (en:Int) (Es:Nat→PR Ex) (hlt:∀b,ltP T b (Es b)) (a:Nat) (ha:a≤T.length) (hE:ESpec G tab T en Es a):AMemO Tryz.prog 136 [.ptr 1000000000 0] (hG G tab T en a) (oG G tab T en (fun y=>.p (eE y)) (formF T en Es a)):=by
 have hlen:=hT.len;generalize hx:formF T en Es a=X;unfold formF at hx;refine oIG Tryz.func136 rfl (by rfl) (by show 1≤_;decide) (fun _=>rfl) (by kernel_rfl) ?_;intro hX;(conv=>whnf);refine oL 500 (look_spec T hlen en a ha) ?_;(conv=>whnf);have hw:IntKind.i64.wrap ((a:Int)+1)=((a+1:Nat):Int):=by rw[wrap64 (by omega) (by omega)];rfl
 cases h1:(lookF T a).kind==4 with
 |true=>
  rw[h1,cond_true]at hx;(conv=>whnf);refine oCG 1000000001 500 (num_spec hPI T hT en false a ha) (fun p hp=>?_) (fun v b hy=>?_)
  ·rw[hp]at hx;subst hx;exact okE hX
  rw[hy,bindP_ok]at hx;(conv=>whnf);subst hx;exact⟨.inl rfl,ob_refl _,⟨rfl,rfl⟩,trivial⟩
 |false=>
  rw[h1,cond_false]at hx;(conv=>whnf)
  cases h2:(lookF T a).kind==5 with
  |true=>
   rw[h2,cond_true]at hx;(conv=>whnf);subst hx;rw[hw];exact⟨.inl rfl,ob_refl _,⟨rfl,rfl⟩,trivial⟩
  |false=>
   rw[h2,cond_false]at hx;(conv=>whnf)
   cases h3:(lookF T a).kind==1 with
   |true=>
    have:=kind_in (by decide) h3;rw[h3,cond_true]at hx;(conv=>whnf);rw[hw];refine oL 500 (is_spec T hlen en (a+1) (by omega) opn) ?_;(conv=>whnf)
    cases h4:isF T opn (a+1) with
    |true=>
     rw[h4,cond_true]at hx;(conv=>whnf);refine oCG 1000000001 500 (insideE_spec T hlen en 103 Es hlt (a+1) (by omega) (fun z h3 h4=>hE z (by omega) h4)) (fun p hp=>?_) (fun l b hy=>?_)
     ·rw[hp]at hx;subst hx;exact okE hX
     rw[hy,bindP_ok]at hx;(conv=>whnf)
     first|refine aneed (.inl (by kernel_rfl)) ?_|refine aneed (by kernel_rfl) ?_
     (conv=>whnf);subst hx;refine⟨?_,ob_refl _,⟨rfl,rfl⟩,trivial⟩
     left
     show _=AV.p (.agg [.i .i64 9,.i .i64 0,.s _,.sl 1 [],.sl 3 [],.sl 8 (eEs l),.sl 12 [],.i .i64 0]);rw[eEs_map l];rfl
    |false=>
     rw[h4,cond_false]at hx;(conv=>whnf);subst hx;exact⟨.inl rfl,ob_refl _,⟨rfl,rfl⟩,trivial⟩
   |false=>
    rw[h3,cond_false]at hx;(conv=>whnf)
    cases h5:(lookF T a).kind==2 with
    |true=>
     have:=kind_in (by decide) h5;rw[h5,cond_true]at hx;(conv=>whnf);rw[hw];refine oCG 1000000001 500 (maybeE_spec T hlen en 103 Es hlt (a+1) (by omega) (fun z h3 h4=>hE z (by omega) h4)) (fun p hp=>?_) (fun l b hy=>?_)
     ·rw[hp]at hx;subst hx;exact okE hX
     rw[hy,bindP_ok]at hx;(conv=>whnf)
     first|refine aneed (.inl (by kernel_rfl)) ?_|refine aneed (by kernel_rfl) ?_
     (conv=>whnf);subst hx;refine⟨?_,ob_refl _,⟨rfl,rfl⟩,trivial⟩
     left
     show _=AV.p (.agg [.i .i64 12,.i .i64 0,.s _,.sl 1 [],.sl 3 [],.sl 8 (eEs l),.sl 12 [],.i .i64 0]);rw[eEs_map l];rfl
    |false=>
     rw[h5,cond_false]at hx;(conv=>whnf)
     cases h6:(lookF T a).kind==6 with
     |true=>
      rw[h6,cond_true]at hx;(conv=>whnf);refine oL 500 (is_spec T hlen en a ha ⟨#[45]⟩) ?_;(conv=>whnf)
      cases h7:isF T ⟨#[45]⟩ a with
      |true=>
       rw[h7,cond_true]at hx;(conv=>whnf);refine oCG 1000000001 500 (num_spec hPI T hT en true a ha) (fun p hp=>?_) (fun v b hy=>?_)
       ·rw[hp]at hx;subst hx;exact okE hX
       rw[hy,bindP_ok]at hx;(conv=>whnf);subst hx;exact⟨.inl rfl,ob_refl _,⟨rfl,rfl⟩,trivial⟩
      |false=>
       rw[h7,cond_false]at hx;(conv=>whnf);refine oL 500 (take_spec T hlen en a ha opn) ?_;(conv=>whnf);unfold takeF
       cases h8:isF T opn a with
       |true=>
        have:=isF_in h8;rw[h8,cond_true]at hx;(conv=>whnf);refine oCG 1000000001 500 (bracket_spec T hlen en Es hlt a (a+1) (by omega) (by omega) hE) (fun p hp=>?_) (fun y b hy=>?_)
        ·rw[hp]at hx;subst hx;exact okE hX
        rw[hy]at hx;obtain⟨yk,yn,yt,yns,yts,yxs,yms,yp⟩:=y;(conv=>whnf);subst hx;exact⟨.inl rfl,ob_refl _,⟨rfl,rfl⟩,trivial⟩
       |false=>
        rw[h8,cond_false]at hx;(conv=>whnf);subst hx;exact(okE hX).elim
     |false=>
      rw[h6,cond_false]at hx;(conv=>whnf)
      cases h9:(lookF T a).kind==3 with
      |true=>
       rw[h9,cond_true]at hx;(conv=>whnf);refine oCG 1000000001 500 (word_spec hPI T hT en Es hlt a a (by omega) ha hE) (fun p hp=>?_) (fun y b hy=>?_)
       ·rw[hp]at hx;subst hx;exact okE hX
       rw[hy]at hx;obtain⟨yk,yn,yt,yns,yts,yxs,yms,yp⟩:=y;(conv=>whnf);subst hx;exact⟨.inl rfl,ob_refl _,⟨rfl,rfl⟩,trivial⟩
      |false=>
       rw[h9,cond_false]at hx;(conv=>whnf);subst hx;exact(okE hX).elim
def setPos (e:Ex) (p:Int):Ex:=match e with|.mk k n t ns ts xs ms _=>.mk k n t ns ts xs ms p
def exprF (T:List Tk) (en:Int):Nat→Nat→PR Ex
 |0,_=>.error 0
 |n+1,a=>bindP (formF T en (exprF T en n) a) fun e b=>.ok (setPos e (placeF T en a),b)
theorem expr_lt (T:List Tk) (en:Int):∀n a,ltP T a (exprF T en n a)
 |0,_=>ltP_err
 |n+1,a=>leP_lt (form_lt (expr_lt T en n) a) fun e b _ _ hb=>leP_ok (Nat.le_refl _) hb
theorem expr_spec {G:Nat} {tab:List Value} (hPI:PIC G tab) (T:List Tk) (hT:TOK T) (en:Int):∀n a,a≤T.length→T.length<n+a→AMemO Tryz.prog 103 [.ptr 1000000000 0] (hG G tab T en a) (oG G tab T en (fun y=>.p (eE y)) (exprF T en n a))
 |0,a,ha,hn=>by omega
 |n+1,a,ha,hn=>by
  have ih:=expr_spec hPI T hT en n;have hlen:=hT.len;generalize hx:exprF T en (n+1) a=X;rw[exprF]at hx;refine oIG Tryz.func103 rfl (by rfl) (by show 1≤_;decide) (fun _=>rfl) (by kernel_rfl) ?_;intro hX;(conv=>whnf);refine oL 500 (place_spec T hlen en a ha) ?_;(conv=>whnf);refine oCG 1000000001 500 (form_spec hPI T hT en _ (expr_lt T en n) a ha (fun z h1 h2=>ih z h2 (by omega))) (fun p hp=>?_) (fun y b hy=>?_)
  ·rw[hp]at hx;subst hx;exact okE hX
  rw[hy,bindP_ok]at hx;(conv=>whnf);obtain⟨yk,yn,yt,yns,yts,yxs,yms,yp⟩:=y;(conv=>whnf);subst hx;exact⟨.inl rfl,ob_refl _,⟨rfl,rfl⟩,trivial⟩
end PA
open Go Go.AM Go.Proofs TK TR
set_option maxRecDepth 100000
namespace PA
def exF (T:List Tk) (en:Int) (a:Nat):PR Ex:=exprF T en (T.length+1) a
theorem ex_lt (T:List Tk) (en:Int) (a:Nat):ltP T a (exF T en a):=expr_lt T en _ a
theorem ex_spec {G:Nat} {tab:List Value} (hPI:PIC G tab) (T:List Tk) (hT:TOK T) (en:Int) (a:Nat) (ha:a≤T.length):AMemO Tryz.prog 103 [.ptr 1000000000 0] (hG G tab T en a) (oG G tab T en (fun y=>.p (eE y)) (exF T en a)):=expr_spec hPI T hT en _ a ha (by omega)
abbrev semi:ByteArray:=⟨#[59]⟩
abbrev equs:ByteArray:=⟨#[61]⟩
def functionF (T:List Tk) (en:Int) (a:Nat):PR LFu:=bindP (headF T en a) fun h b=>bindP (wantF T en [equs] b) fun _ c=>bindP (exF T en c) fun x d=>bindP (wantF T en [semi] d) fun _ e=>.ok ({ h with body:=x },e)
theorem function_lt (T:List Tk) (en:Int) (a:Nat):ltP T a (functionF T en a):=leP_lt (head_lt T en a) fun h b _ _ hb=>leP_bind (want_le T en _ b hb) fun _ c _ _ hc=>leP_bind (ex_lt T en c).le fun x d _ _ hd=>leP_bind (want_le T en _ d hd) fun _ e _ _ he=>leP_ok (Nat.le_refl _) he
theorem function_spec {G:Nat} {tab:List Value} (hPI:PIC G tab) (T:List Tk) (hT:TOK T) (en:Int) (a:Nat) (ha:a≤T.length):AMemO Tryz.prog 100 [.ptr 1000000000 0] (hG G tab T en a) (oG G tab T en (fun y=>.p (elFu y)) (functionF T en a)):=by
 have hlen:=hT.len;generalize hx:functionF T en a=X;unfold functionF at hx;refine oIG Tryz.func100 rfl (by rfl) (by show 1≤_;decide) (fun _=>rfl) (by kernel_rfl) ?_;intro hX;(conv=>whnf);refine oC 500 (head_spec T hlen en a ha) (fun p hp=>?_) (fun f b hy=>?_)
 ·rw[hp]at hx;subst hx;exact okE hX
 rw[hy,bindP_ok]at hx;(conv=>whnf);obtain⟨q1,q2⟩:=head_lt T en a f b hy;obtain⟨fn,fps,fns,fts,⟨ok,on,oa⟩,⟨bk,bn,bt,bns,bts,bxs,bms,bp⟩⟩:=f;(conv=>whnf);refine oC 500 (want_spec T hlen en b q2 [equs] (by decide)) (fun p hp=>?_) (fun u c hy=>?_)
 ·rw[hp]at hx;subst hx;exact okE hX
 rw[hy,bindP_ok]at hx;(conv=>whnf);obtain⟨q3,q4⟩:=want_le T en _ b q2 u c hy;refine oCG 1000000001 500 (ex_spec hPI T hT en c q4) (fun p hp=>?_) (fun x d hy=>?_)
 ·rw[hp]at hx;subst hx;exact okE hX
 rw[hy,bindP_ok]at hx;(conv=>whnf);obtain⟨q5,q6⟩:=ex_lt T en c x d hy;obtain⟨xk,xn,xt,xns,xts,xxs,xms,xp⟩:=x;(conv=>whnf);refine oC 500 (want_spec T hlen en d q6 [semi] (by decide)) (fun p hp=>?_) (fun u e hy=>?_)
 ·rw[hp]at hx;subst hx;exact okE hX
 rw[hy,bindP_ok]at hx;(conv=>whnf);subst hx;exact⟨.inl rfl,ob_refl _,⟨rfl,rfl⟩,trivial⟩
def sigF (T:List Tk) (en:Int) (a:Nat):PR LFu:=bindP (headF T en a) fun h b=>bindP (wantF T en [semi] b) fun _ c=>.ok (h,c)
theorem sig_lt (T:List Tk) (en:Int) (a:Nat):ltP T a (sigF T en a):=leP_lt (head_lt T en a) fun h b _ _ hb=>leP_bind (want_le T en _ b hb) fun _ c _ _ hc=>leP_ok (Nat.le_refl _) hc
theorem sig_spec (T:List Tk) (hT:T.length≤4000) (en:Int) (a:Nat) (ha:a≤T.length):AMemO Tryz.prog 97 [.ptr 1000000001 0] (hN T en a) (oN T en (fun y=>.p (elFu y)) (sigF T en a)):=by
 generalize hx:sigF T en a=X;unfold sigF at hx;refine oIN Tryz.func97 rfl (by rfl) (by show 1≤_;decide) (fun _=>rfl) (by kernel_rfl) ?_;intro hX;(conv=>whnf);refine oC 500 (head_spec T hT en a ha) (fun p hp=>?_) (fun f b hy=>?_)
 ·rw[hp]at hx;subst hx;exact okE hX
 rw[hy,bindP_ok]at hx;(conv=>whnf);obtain⟨q1,q2⟩:=head_lt T en a f b hy;obtain⟨fn,fps,fns,fts,⟨ok,on,oa⟩,⟨bk,bn,bt,bns,bts,bxs,bms,bp⟩⟩:=f;(conv=>whnf);refine oC 500 (want_spec T hT en b q2 [semi] (by decide)) (fun p hp=>?_) (fun u c hy=>?_)
 ·rw[hp]at hx;subst hx;exact okE hX
 rw[hy,bindP_ok]at hx;(conv=>whnf);subst hx;exact⟨.inl rfl,ob_refl _,ob_refl _,trivial⟩
def funcsGo (T:List Tk) (en:Int) (Fs:Nat→PR LFu):Nat→List LFu→Nat→PR (List LFu)
 |0,_,_=>.error 0
 |m+1,out,b=>bif isF T ⟨#[125]⟩ b then .ok (out,b+1) else bindP (wantF T en [wFun] b) fun _ c=>bindP (Fs c) fun f d=>funcsGo T en Fs m (out++[f]) d
def funcsF (T:List Tk) (en:Int) (Fs:Nat→PR LFu) (a:Nat):PR (List LFu):=bindP (wantF T en [⟨#[123]⟩] a) fun _ b=>funcsGo T en Fs (T.length+1) [] b
theorem funcsGo_lt {T:List Tk} {en:Int} {Fs:Nat→PR LFu} (hF:∀b,ltP T b (Fs b)):∀m out a,ltP T a (funcsGo T en Fs m out a)
 |0,_,_=>ltP_err
 |m+1,out,a=>by
  rw[funcsGo]
  cases hi:isF T ⟨#[125]⟩ a with
  |true=>exact ltP_in (isF_in hi)
  |false=>exact leP_lt (want_lt T en _ [] a) fun _ c _ _ hc=>leP_bind (hF c).le fun f d _ _ hd=>(funcsGo_lt hF m _ d).le
theorem funcs_lt {T:List Tk} {en:Int} {Fs:Nat→PR LFu} (hF:∀b,ltP T b (Fs b)) (a:Nat):ltP T a (funcsF T en Fs a):=leP_lt (want_lt T en _ [] a) fun _ b _ _ hb=>(funcsGo_lt hF _ _ b).le
theorem funcsG_spec {G:Nat} {tab:List Value} (T:List Tk) (hT:T.length≤4000) (en:Int) (F:Nat) (Fs:Nat→PR LFu) (hlt:∀b,ltP T b (Fs b)) (a:Nat) (ha:a≤T.length) (hF:∀b,b≤T.length→AMemO Tryz.prog F [.ptr 1000000000 0] (hG G tab T en b) (oG G tab T en (fun y=>.p (elFu y)) (Fs b))):AMemO Tryz.prog 96 [.ptr 1000000000 0,.fn F [.ptr 1000000000 0] []] (hG G tab T en a) (oG G tab T en (fun l=>.p (.sl 15 (l.map elFu))) (funcsF T en Fs a)):=by
 generalize hx:funcsF T en Fs a=X;unfold funcsF at hx;refine oIG Tryz.func96 rfl (by rfl) (by show 2≤_;decide) (fun _=>rfl) (by kernel_rfl) ?_;intro hX;(conv=>whnf);refine oC 500 (want_spec T hT en a ha [⟨#[123]⟩] (by decide)) (fun p hp=>?_) (fun u b hy=>?_)
 ·rw[hp]at hx;subst hx;exact okE hX
 rw[hy,bindP_ok]at hx;(conv=>whnf);obtain⟨q1,q2⟩:=want_lt T en _ [] a u b hy;refine lp_nil 5 14 rfl ?_;refine loopS (tyOf_ok _) hmix (by kernel_rfl) T.length [0,1,5] [1000000000,1000000001] (fun k (s:List LFu×Nat)=>[.ptr 1000000000 0,.fn F [.ptr 1000000000 0] [],.so 15 (s.1.map elFu)]) (fun k s=>[.cells [.p (.sl 3 (T.map eTk)),.p (.i .i64 s.2),.p (.i .i64 en)],.glob G tab]) (fun k s=>k≤s.2∧s.2≤T.length∧s.1.length≤k∧funcsGo T en Fs (T.length+1-k) s.1 s.2=X) ([],b) ⟨rfl,rfl,rfl,rfl⟩ ⟨by simp,q2,by simp,hx⟩ ?_;rintro k ⟨out,s⟩ hk ⟨hs1,hs,hs3,hx⟩;simp only at hs1 hs hs3 hx ⊢;rw[show T.length+1-k=(T.length-k)+1 by omega,funcsGo]at hx;(conv=>whnf);refine oL 500 (take_spec T hT en s hs ⟨#[125]⟩) ?_;(conv=>whnf);unfold takeF
 cases hi:isF T ⟨#[125]⟩ s with
 |true=>
  rw[hi,cond_true]at hx;(conv=>whnf);subst hx;exact⟨.inr rfl,ob_refl _,⟨rfl,rfl⟩,trivial⟩
 |false=>
  rw[hi,cond_false]at hx;(conv=>whnf);refine oC 500 (want_spec T hT en s hs [wFun] (by decide)) (fun p hp=>?_) (fun u c hy=>?_)
  ·rw[hp]at hx;subst hx;exact okE hX
  rw[hy,bindP_ok]at hx;(conv=>whnf);obtain⟨q3,q4⟩:=want_lt T en _ [] s u c hy;refine oCG 1000000001 500 (hF c q4) (fun p hp=>?_) (fun f d hy=>?_)
  ·rw[hp]at hx;subst hx;exact okE hX
  rw[hy,bindP_ok]at hx;obtain⟨q5,q6⟩:=hlt c f d hy;obtain⟨fn,fps,fns,fts,⟨ok,on,oa⟩,⟨bk,bn,bt,bns,bts,bxs,bms,bp⟩⟩:=f;(conv=>whnf);refine aneed (Nat.le_trans (Nat.mul_le_mul_right _ (show _≤5000 by simp only[List.length_map,List.length_cons,List.length_nil];omega)) (Nat.le_of_ble_eq_true (by kernel_rfl))) ?_;(conv=>whnf);refine⟨by omega,(out++[⟨fn,fps,fns,fts,⟨ok,on,oa⟩,⟨bk,bn,bt,bns,bts,bxs,bms,bp⟩⟩],d),?_,by show k+1≤d;omega,q6,by show(out++[_]).length≤k+1;simp only[List.length_append,List.length_cons,List.length_nil];omega,?_⟩
  ·simp only[List.map_append,List.map_cons,List.map_nil]
   exact⟨rfl,rfl,rfl,rfl⟩
  ·rw[show T.length+1-(k+1)=T.length-k by omega];exact hx
theorem funcsN_spec (T:List Tk) (hT:T.length≤4000) (en:Int) (F:Nat) (Fs:Nat→PR LFu) (hlt:∀b,ltP T b (Fs b)) (a:Nat) (ha:a≤T.length) (hF:∀b,b≤T.length→AMemO Tryz.prog F [.ptr 1000000001 0] (hN T en b) (oN T en (fun y=>.p (elFu y)) (Fs b))):AMemO Tryz.prog 96 [.ptr 1000000000 0,.fn F [] [.ptr 1000000001 0]] (hN T en a) (oN T en (fun l=>.p (.sl 15 (l.map elFu))) (funcsF T en Fs a)):=by
 generalize hx:funcsF T en Fs a=X;unfold funcsF at hx;refine oIN Tryz.func96 rfl (by rfl) (by show 2≤_;decide) (fun _=>rfl) (by kernel_rfl) ?_;intro hX;(conv=>whnf);refine oC 500 (want_spec T hT en a ha [⟨#[123]⟩] (by decide)) (fun p hp=>?_) (fun u b hy=>?_)
 ·rw[hp]at hx;subst hx;exact okE hX
 rw[hy,bindP_ok]at hx;(conv=>whnf);obtain⟨q1,q2⟩:=want_lt T en _ [] a u b hy;refine lp_nil 5 14 rfl ?_;refine loopS (tyOf_ok _) hmix (by kernel_rfl) T.length [0,1,5] [1000000000,1000000001] (fun k (s:List LFu×Nat)=>[.ptr 1000000000 0,.fn F [] [.ptr 1000000001 0],.so 15 (s.1.map elFu)]) (fun k s=>[.cells [.p (.sl 3 (T.map eTk)),.p (.i .i64 s.2),.p (.i .i64 en)],.cells [.ptr 1000000000 0]]) (fun k s=>k≤s.2∧s.2≤T.length∧s.1.length≤k∧funcsGo T en Fs (T.length+1-k) s.1 s.2=X) ([],b) ⟨rfl,rfl,rfl,rfl⟩ ⟨by simp,q2,by simp,hx⟩ ?_;rintro k ⟨out,s⟩ hk ⟨hs1,hs,hs3,hx⟩;simp only at hs1 hs hs3 hx ⊢;rw[show T.length+1-k=(T.length-k)+1 by omega,funcsGo]at hx;(conv=>whnf);refine oL 500 (take_spec T hT en s hs ⟨#[125]⟩) ?_;(conv=>whnf);unfold takeF
 cases hi:isF T ⟨#[125]⟩ s with
 |true=>
  rw[hi,cond_true]at hx;(conv=>whnf);subst hx;exact⟨.inr rfl,ob_refl _,ob_refl _,trivial⟩
 |false=>
  rw[hi,cond_false]at hx;(conv=>whnf);refine oC 500 (want_spec T hT en s hs [wFun] (by decide)) (fun p hp=>?_) (fun u c hy=>?_)
  ·rw[hp]at hx;subst hx;exact okE hX
  rw[hy,bindP_ok]at hx;(conv=>whnf);obtain⟨q3,q4⟩:=want_lt T en _ [] s u c hy;refine oCN 1000000001 500 (hF c q4) (fun p hp=>?_) (fun f d hy=>?_)
  ·rw[hp]at hx;subst hx;exact okE hX
  rw[hy,bindP_ok]at hx;obtain⟨q5,q6⟩:=hlt c f d hy;obtain⟨fn,fps,fns,fts,⟨ok,on,oa⟩,⟨bk,bn,bt,bns,bts,bxs,bms,bp⟩⟩:=f;(conv=>whnf);refine aneed (Nat.le_trans (Nat.mul_le_mul_right _ (show _≤5000 by simp only[List.length_map,List.length_cons,List.length_nil];omega)) (Nat.le_of_ble_eq_true (by kernel_rfl))) ?_;(conv=>whnf);refine⟨by omega,(out++[⟨fn,fps,fns,fts,⟨ok,on,oa⟩,⟨bk,bn,bt,bns,bts,bxs,bms,bp⟩⟩],d),?_,by show k+1≤d;omega,q6,by show(out++[_]).length≤k+1;simp only[List.length_append,List.length_cons,List.length_nil];omega,?_⟩
  ·simp only[List.map_append,List.map_cons,List.map_nil]
   exact⟨rfl,rfl,rfl,rfl⟩
  ·rw[show T.length+1-(k+1)=T.length-k by omega];exact hx
end PA
