/- Contracts, and the law, for every input. No conditions. -/
import Derived.Test.YtdmopjgjhfhfdaaGreatDoorMNT
import Derived.Test.YtdmopjgjhfhfdaaGreatDoorMNM
open Go Go.AM Go.Proofs TK
set_option maxRecDepth 100000
namespace MN
theorem frzOp {op:ByteArray} {r:AV} {kk n:Nat} {xs:List Vl} (z:Sto (List Vl)) (hk:tlk kk z.2=some xs) (hn:n≤xs.length)
 (h:AMem Tryz.prog 255 [.p (.s op),.p (.sl 5 (eVs (xs.take n)))] [(1000000000,hVb (z.1,tdel kk z.2))] r [(1000000000,hVb (z.1,tdel kk z.2))]):
 AMem Tryz.prog 255 [.p (.s op),.p (.ads vS kk n)] [(1000000000,hVb z)] r [(1000000000,hVb (z.1,tdel kk z.2))]:=by
 have hlen:(eVs xs).length=xs.length:=by rw[eVs_map];simp
 refine AMem.freeze (l:=1000000000) (T:=139) (one:=false) (sp:=vS) (nx:=z.1) (sz:=5) (k:=kk) (n:=n) (M:=enM eVs z.2) (xs:=eVs xs) h rfl rfl ?_ (slk_in hk) (by rw[hlen];exact hn) (by decide) rfl ?_
 ·intro x
  unfold hVb;rw[enM_del]
  cases hb:Nat.beq 1000000000 x with
  |true=>simp only[hget,hb]
  |false=>simp only[hget,hb]
 ·intro j a b h1 h2
  rcases j with _|_|j
  ·cases h1;cases h2;exact .inl ⟨rfl,fun _ _ q=>by cases q⟩
  ·cases h1;cases h2
   refine .inr ⟨_,_,rfl,rfl,?_⟩;rw[show eVs (xs.take n)=(eVs xs).take n by rw[eVs_map,eVs_map,List.map_take]];exact .ads
  ·cases h1
noncomputable def tyPu:Nat→Option TI:=hint (tyOf Tryz.prog) 133 [1000025]
theorem tyPu_ok:TyOK Tryz.prog tyPu:=(tyOf_ok Tryz.prog).hint _ _
theorem nilOp {op:ByteArray} {r:AV} (z:Sto (List Vl))
 (h:AMem Tryz.prog 255 [.p (.s op),.p (.sl 5 (eVs []))] [(1000000000,hVb z)] r [(1000000000,hVb z)]):
 AMem Tryz.prog 255 [.p (.s op),.p .nsl] [(1000000000,hVb z)] r [(1000000000,hVb z)]:=by
 refine argsLe h rfl ?_;intro j a b h1 h2;rcases j with _|_|j
 ·cases h1;cases h2;exact .inl rfl
 ·cases h1;cases h2
  refine .inr ⟨_,_,rfl,rfl,fun M v hr=>?_⟩
  cases hr;exact .nil 5
 ·cases h1
theorem operator_eager (K:Ks) (S:Ss) (zr:Sto Rn) (k kn:Nat) (n:Nd) (r:Rn) (f:Fr) (xs:List Vl) (R:Vl×ByteArray) (hr:tlk k zr.2=some r) (hfn:f.n=some kn) (hn:tlk kn K.n.2=some n) (hz:lazyF n=false) (hx:valsOf S f.vals=some xs) (hl:isL f.vals=false) (hF:operateF n.text xs=some R):
 AMem Tryz.prog 247 [.p (.adr rS k),.p (.agg (cFr f))] (hA K S zr) (.tup []) (match eqB R.2 ⟨#[]⟩ with|false=>hA K (failS (frzS S f.vals) r R.2).1 (zr.1,tset k (failS (frzS S f.vals) r R.2).2 zr.2)|true=>hA K (frzS S f.vals) (zr.1,tset k (giveR r R.1) zr.2)):=by
 have hlz:=lazy_spec K.n kn n hn;rw[hz]at hlz;have hfl:=fun w=>fail_spec zr S.o k w r hr;have hgv:=give_spec zr k R.1 r hr;obtain⟨n1,n2,n3,n4,n5,n6,n7,n8,n9⟩:=n;obtain⟨f1,f2,f3,f4,f5⟩:=f;dsimp only at hfn hx hl hF;subst hfn;obtain⟨⟨u1,u2,u3,u4,u5⟩,w⟩:=R;rw[eV]at hgv
 cases f3 with
 |lst l=>cases hl
 |nil=>
  cases hx;have hop:=nilOp S.v (operate_spec S.v n3 [] _ (by simp) hF);rw[eV]at hop;unfold hA hNd cFr giveR frzS failS at *;dsimp only[eFV]at *
  cases hw:eqB w ⟨#[]⟩ with
  |false=>
   dsimp only;refine AMem.intro (tyOf_ok Tryz.prog) hmix Tryz.func247 rfl (by rfl) (by kernel_rfl) (by show 2≤_;decide) rfl ?_;(conv=>whnf);refine amc [1000000002] 300 hlz ?_;(conv=>whnf);refine lpe eNd hn rfl ?_;(conv=>whnf);refine amc [1000000006] 400 hop ?_;(conv=>whnf);refine aneed (.inl (by kernel_rfl)) ?_;(conv=>whnf);refine ast (show(!(eqB w ⟨#[]⟩))=true by rw[hw];rfl) ?_;(conv=>whnf);refine amc [1000000000,1000000001] 300 (hfl w) ?_;(conv=>whnf);refine⟨.inl rfl,⟨s6,s6,s6,s6,s6,s6,s6,s6,s6,s6,s6,s6,s6,s6,s6,s6,trivial⟩⟩
  |true=>
   dsimp only;refine AMem.intro (tyOf_ok Tryz.prog) hmix Tryz.func247 rfl (by rfl) (by kernel_rfl) (by show 2≤_;decide) rfl ?_;(conv=>whnf);refine amc [1000000002] 300 hlz ?_;(conv=>whnf);refine lpe eNd hn rfl ?_;(conv=>whnf);refine amc [1000000006] 400 hop ?_;(conv=>whnf);refine aneed (.inl (by kernel_rfl)) ?_;(conv=>whnf);refine asf (show(!(eqB w ⟨#[]⟩))=false by rw[hw];rfl) ?_;(conv=>whnf);refine amc [1000000000] 300 hgv ?_;(conv=>whnf);refine⟨.inl rfl,⟨s6,s6,s6,s6,s6,s6,s6,s6,s6,s6,s6,s6,s6,s6,s6,s6,trivial⟩⟩
 |blk kk m=>
  unfold valsOf at hx;dsimp only at hx
  cases hL:tlk kk S.v.2 with
  |none=>rw[hL]at hx;cases hx
  |some L=>
   rw[hL]at hx;dsimp only at hx
   cases hg:Nat.ble m L.length&&Nat.ble m 1000000 with
   |false=>rw[hg]at hx;cases hx
   |true=>
    rw[hg]at hx;cases hx;rw[Bool.and_eq_true]at hg;have hg1:=Nat.le_of_ble_eq_true hg.1;have hg2:=Nat.le_of_ble_eq_true hg.2;have hop:=frzOp S.v hL hg1 (operate_spec (S.v.1,tdel kk S.v.2) n3 (L.take m) _ (by rw[List.length_take];omega) hF);rw[eV]at hop;unfold hA hNd cFr giveR frzS failS at *;dsimp only[eFV]at *
    cases hw:eqB w ⟨#[]⟩ with
    |false=>
     dsimp only;refine AMem.intro (tyOf_ok Tryz.prog) hmix Tryz.func247 rfl (by rfl) (by kernel_rfl) (by show 2≤_;decide) rfl ?_;(conv=>whnf);refine amc [1000000002] 300 hlz ?_;(conv=>whnf);refine lpe eNd hn rfl ?_;(conv=>whnf);refine amc [1000000006] 400 hop ?_;(conv=>whnf);refine aneed (.inl (by kernel_rfl)) ?_;(conv=>whnf);refine ast (show(!(eqB w ⟨#[]⟩))=true by rw[hw];rfl) ?_;(conv=>whnf);refine amc [1000000000,1000000001] 300 (hfl w) ?_;(conv=>whnf);refine⟨.inl rfl,⟨s6,s6,s6,s6,s6,s6,s6,s6,s6,s6,s6,s6,s6,s6,s6,s6,trivial⟩⟩
    |true=>
     dsimp only;refine AMem.intro (tyOf_ok Tryz.prog) hmix Tryz.func247 rfl (by rfl) (by kernel_rfl) (by show 2≤_;decide) rfl ?_;(conv=>whnf);refine amc [1000000002] 300 hlz ?_;(conv=>whnf);refine lpe eNd hn rfl ?_;(conv=>whnf);refine amc [1000000006] 400 hop ?_;(conv=>whnf);refine aneed (.inl (by kernel_rfl)) ?_;(conv=>whnf);refine asf (show(!(eqB w ⟨#[]⟩))=false by rw[hw];rfl) ?_;(conv=>whnf);refine amc [1000000000] 300 hgv ?_;(conv=>whnf);refine⟨.inl rfl,⟨s6,s6,s6,s6,s6,s6,s6,s6,s6,s6,s6,s6,s6,s6,s6,s6,trivial⟩⟩
end MN
open Go Go.AM Go.Proofs TK
set_option maxRecDepth 100000
namespace MN
theorem frs_push (nx g1 g2:Nat) (fl:List Fr) (f:Fr) (M:List (Nat×List Fr)):(nx,(eFrs fl).take g2++[.agg (cFr f)])::sdel g1 (enM eFrs M)=enM eFrs ((nx,fl.take g2++[f])::tdel g1 M):=by
 rw[enM,sdel_en];have:eFrs (fl.take g2++[f])=(eFrs fl).take g2++[.agg (cFr f)]:=by unfold eFrs;simp[List.map_take]
 rw[this]
theorem operator_lazy (K:Ks) (S:Ss) (zr:Sto Rn) (k kn kk:Nat) (n:Nd) (r:Rn) (f:Fr) (v:Vl) (L:List Vl) (R:Ss×Rn) (hr:tlk k zr.2=some r) (hfn:f.n=some kn) (hn:tlk kn K.n.2=some n) (hz:lazyF n=true) (hfv:f.vals=.blk kk 1) (hL:tlk kk S.v.2=some (v::L))
 (hF:(match v.kind==3 with|false=>some (failS S r wType)|true=>match !((!(v.num==0))==eqB n.text wAnd) with|true=>some (S,giveR r v)|false=>pushEval K S r f n 1)=some R):
 AMem Tryz.prog 247 [.p (.adr rS k),.p (.agg (cFr f))] (hA K S zr) (.tup []) (hA K R.1 (zr.1,tset k R.2 zr.2)):=by
 have hlz:=lazy_spec K.n kn n hn;rw[hz]at hlz;have hfl:=fun w=>fail_spec zr S.o k w r hr;have hgv:=give_spec zr k v r hr;obtain⟨n1,n2,n3,n4,n5,n6,n7,n8,n9⟩:=n;obtain⟨f1,f2,f3,f4,f5⟩:=f;obtain⟨vk,vn,vt,va,vc⟩:=v;dsimp only at hfn hfv;subst hfn;subst hfv;dsimp only[Vl.kind,Vl.num]at hF;rw[eV]at hgv
 cases hk:vk==3 with
 |false=>
  rw[hk]at hF;cases hF;unfold hA hNd hVb cFr at *;dsimp only[eFV]at *;refine AMem.intro (tyOf_ok Tryz.prog) hmix Tryz.func247 rfl (by rfl) (by kernel_rfl) (by show 2≤_;decide) rfl ?_;(conv=>whnf);refine amc [1000000002] 300 hlz ?_;(conv=>whnf);refine aneed ⟨by decide,by decide⟩ ?_;(conv=>whnf);refine aneed ⟨rfl,by decide,.inr rfl⟩ ?_;refine⟨_,slk_in hL,?_⟩;refine aidxn (i:=0) (x:=.agg [.i .i64 vk,.i .i64 vn,.s vt,.sl 5 (eVs va),eP cS vc]) (rfl) ?_;(conv=>whnf);refine ast (show(!(vk==3))=true by rw[hk];rfl) ?_;(conv=>whnf);refine amc [1000000000,1000000001] 300 (hfl wType) ?_;(conv=>whnf);refine⟨.inl rfl,⟨s6,s6,s6,s6,s6,s6,s6,s6,s6,s6,s6,s6,s6,s6,s6,s6,trivial⟩⟩
 |true=>
  rw[hk]at hF;dsimp only at hF
  cases hg:!((!(vn==0))==eqB n3 wAnd) with
  |true=>
   rw[hg]at hF;cases hF;unfold hA hNd hVb cFr giveR at *;dsimp only[eFV]at *;refine AMem.intro (tyOf_ok Tryz.prog) hmix Tryz.func247 rfl (by rfl) (by kernel_rfl) (by show 2≤_;decide) rfl ?_;(conv=>whnf);refine amc [1000000002] 300 hlz ?_;(conv=>whnf);refine aneed ⟨by decide,by decide⟩ ?_;(conv=>whnf);refine aneed ⟨rfl,by decide,.inr rfl⟩ ?_;refine⟨_,slk_in hL,?_⟩;refine aidxn (i:=0) (x:=.agg [.i .i64 vk,.i .i64 vn,.s vt,.sl 5 (eVs va),eP cS vc]) (rfl) ?_;(conv=>whnf);refine asf (show(!(vk==3))=false by rw[hk];rfl) ?_;(conv=>whnf);refine lpe eNd hn rfl ?_;(conv=>whnf);refine aneed (.inl (by kernel_rfl)) ?_;(conv=>whnf);refine ast hg ?_;(conv=>whnf);refine amc [1000000000] 300 hgv ?_;(conv=>whnf);refine⟨.inl rfl,⟨s6,s6,s6,s6,s6,s6,s6,s6,s6,s6,s6,s6,s6,s6,s6,s6,trivial⟩⟩
  |false=>
   rw[hg]at hF;dsimp only at hF;unfold pushEval at hF
   cases hp:pushS S r ⟨some kn,f2,.blk kk 1,f4,f5⟩ with
   |none=>rw[hp]at hF;cases hF
   |some P=>
    rw[hp]at hF;obtain⟨S2,r2⟩:=P;dsimp only at hF
    cases ha:argF K.a ⟨n1,n2,n3,n4,n5,n6,n7,n8,n9⟩ 1 with
    |none=>rw[ha]at hF;cases hF
    |some c=>
     rw[ha]at hF;cases hF;have hev:=eval_spec (zr.1,tset k r2 zr.2) k c ⟨some kn,f2,.blk kk 1,f4,f5⟩ f2 r2 (tlk_tset hr);rw[tset_tset]at hev;have hen:∀M,sset k (eRn r2) (enM eRn M)=enM eRn (tset k r2 M):=fun M=>sset_en eRn k _ M;unfold pushS at hp;unfold argF at ha;dsimp only at ha
     cases n5 with
     |none=>cases ha
     |some q=>
      obtain⟨q1,q2⟩:=q;dsimp only at ha
      cases hb:Nat.blt 1 q2 with
      |false=>rw[hb]at ha;cases ha
      |true=>
       rw[hb]at ha;dsimp only at ha
       cases hl:tlk q1 K.a.2 with
       |none=>rw[hl]at ha;cases ha
       |some al=>
        rw[hl]at ha;dsimp only at ha;have hb1:1<q2:=by rw[Nat.blt_eq]at hb;exact hb
        obtain⟨r1,r2',r3,r4,r5,r6,r7,⟨c1,c2,c3,c4,c5⟩,⟨wk,wn,wt,wa,wc⟩,⟨o1,o2,o3,o4,o5,o6,o7,o8⟩,⟨p1,p2,p3,p4,p5⟩,r12⟩:=r;dsimp only at hp
        cases r7 with
        |none=>
         cases hp;unfold hA hRn hNd hVb hAr hFb cFr evalR at *;dsimp only[eFV]at *;rw[←hen]at hev;refine AMem.intro tyPu_ok hmix Tryz.func247 rfl (by rfl) (by kernel_rfl) (by show 2≤_;decide) rfl ?_;(conv=>whnf);refine amc [1000000002] 300 hlz ?_;(conv=>whnf);refine aneed ⟨by decide,by decide⟩ ?_;(conv=>whnf);refine aneed ⟨rfl,by decide,.inr rfl⟩ ?_;refine⟨_,slk_in hL,?_⟩;refine aidxn (i:=0) (x:=.agg [.i .i64 vk,.i .i64 vn,.s vt,.sl 5 (eVs va),eP cS vc]) (rfl) ?_;(conv=>whnf);refine asf (show(!(vk==3))=false by rw[hk];rfl) ?_;(conv=>whnf);refine lpe eNd hn rfl ?_;(conv=>whnf);refine aneed (.inl (by kernel_rfl)) ?_;(conv=>whnf);refine asf hg ?_;(conv=>whnf);refine lpe eRn hr rfl ?_;(conv=>whnf);refine aneed ⟨Nat.succ_pos _,Nat.le_of_ble_eq_true (by kernel_rfl)⟩ ?_;(conv=>whnf);refine lpe eRn hr rfl ?_;(conv=>whnf);refine aneed (.inl (by kernel_rfl)) ?_;(conv=>whnf);refine lpe eNd hn rfl ?_;(conv=>whnf);refine aneed ⟨by decide,hb1⟩ ?_;(conv=>whnf);refine aneed ⟨rfl,by decide,.inr rfl⟩ ?_;refine⟨_,slk_in hl,?_⟩;refine aidxn (i:=1) (x:=.adr nS c) (by unfold eKs;rw[List.getElem?_map,ha];rfl) ?_;(conv=>whnf);refine amc [1000000000] 400 hev ?_;(conv=>whnf);refine aneed (.inl (by kernel_rfl)) ?_;(conv=>whnf);refine⟨.inl rfl,⟨s6,s6,s6,s6,s6,s6,s6,s6,s6,s6,s6,s6,s6,s6,s6,s6,trivial⟩⟩
        |some q=>
         obtain⟨g1,g2⟩:=q;dsimp only at hp
         cases hfl2:tlk g1 S.f.2 with
         |none=>rw[hfl2]at hp;cases hp
         |some fl=>
          rw[hfl2]at hp;dsimp only at hp
          cases hg3:Nat.ble g2 fl.length&&Nat.ble g2 1000000 with
          |false=>rw[hg3]at hp;cases hp
          |true=>
           rw[hg3]at hp;cases hp;rw[Bool.and_eq_true]at hg3;have hg4:=Nat.le_of_ble_eq_true hg3.1;have hg5:=Nat.le_of_ble_eq_true hg3.2;unfold hA hRn hNd hVb hAr hFb cFr evalR at *;dsimp only[eFV]at *;rw[←hen]at hev;refine AMem.intro tyPu_ok hmix Tryz.func247 rfl (by rfl) (by kernel_rfl) (by show 2≤_;decide) rfl ?_;(conv=>whnf);refine amc [1000000002] 300 hlz ?_;(conv=>whnf);refine aneed ⟨by decide,by decide⟩ ?_;(conv=>whnf);refine aneed ⟨rfl,by decide,.inr rfl⟩ ?_;refine⟨_,slk_in hL,?_⟩;refine aidxn (i:=0) (x:=.agg [.i .i64 vk,.i .i64 vn,.s vt,.sl 5 (eVs va),eP cS vc]) (rfl) ?_;(conv=>whnf);refine asf (show(!(vk==3))=false by rw[hk];rfl) ?_;(conv=>whnf);refine lpe eNd hn rfl ?_;(conv=>whnf);refine aneed (.inl (by kernel_rfl)) ?_;(conv=>whnf);refine asf hg ?_;(conv=>whnf);refine lpe eRn hr rfl ?_;(conv=>whnf);refine⟨rfl,_,slk_in hfl2,?_⟩;refine aneed ⟨by unfold eFrs;rw[List.length_map];exact hg4,Nat.le_trans (Nat.mul_le_mul_right _ (show g2+1≤1000001 by omega)) (Nat.le_of_ble_eq_true (by kernel_rfl))⟩ ?_;(conv=>whnf);refine lpe eRn hr rfl ?_;(conv=>whnf);refine aneed (.inl (by kernel_rfl)) ?_;(conv=>whnf);refine lpe eNd hn rfl ?_;(conv=>whnf);refine aneed ⟨by decide,hb1⟩ ?_;(conv=>whnf);refine aneed ⟨rfl,by decide,.inr rfl⟩ ?_;refine⟨_,slk_in hl,?_⟩;refine aidxn (i:=1) (x:=.adr nS c) (by unfold eKs;rw[List.getElem?_map,ha];rfl) ?_;(conv=>whnf);refine amc [1000000000] 400 hev ?_;(conv=>whnf);refine aneed (.inl (by kernel_rfl)) ?_;(conv=>whnf);refine⟨.inl rfl,⟨s6,s6,s6,s6,s6,s6,s6,⟨rfl,rfl,rfl,rfl,rfl,?_⟩,s6,s6,s6,s6,s6,s6,s6,s6,trivial⟩⟩;exact frs_push _ _ _ fl ⟨some kn,f2,.blk kk 1,f4,f5⟩ _
end MN
open Go Go.AM Go.Proofs TK
set_option maxRecDepth 100000
namespace MN
theorem operator_two (K:Ks) (S:Ss) (zr:Sto Rn) (k kn kk:Nat) (n:Nd) (r:Rn) (f:Fr) (u v:Vl) (L:List Vl) (R:Ss×Rn) (hr:tlk k zr.2=some r) (hfn:f.n=some kn) (hn:tlk kn K.n.2=some n) (hz:lazyF n=true) (hfv:f.vals=.blk kk 2) (hL:tlk kk S.v.2=some (u::v::L))
 (hF:(match v.kind==3 with|false=>some (failS S r wType)|true=>some (S,giveR r v))=some R):
 AMem Tryz.prog 247 [.p (.adr rS k),.p (.agg (cFr f))] (hA K S zr) (.tup []) (hA K R.1 (zr.1,tset k R.2 zr.2)):=by
 have hlz:=lazy_spec K.n kn n hn;rw[hz]at hlz;have hfl:=fun w=>fail_spec zr S.o k w r hr;have hgv:=give_spec zr k v r hr;obtain⟨n1,n2,n3,n4,n5,n6,n7,n8,n9⟩:=n;obtain⟨f1,f2,f3,f4,f5⟩:=f;obtain⟨uk,un,ut,ua,uc⟩:=u;obtain⟨vk,vn,vt,va,vc⟩:=v;dsimp only at hfn hfv;subst hfn;subst hfv;dsimp only[Vl.kind,Vl.num]at hF;rw[eV]at hgv
 cases hk:vk==3 with
 |false=>
  rw[hk]at hF;cases hF;unfold hA hNd hVb cFr at *;dsimp only[eFV]at *;refine AMem.intro (tyOf_ok Tryz.prog) hmix Tryz.func247 rfl (by rfl) (by kernel_rfl) (by show 2≤_;decide) rfl ?_;(conv=>whnf);refine amc [1000000002] 300 hlz ?_;(conv=>whnf);refine aneed ⟨by decide,by decide⟩ ?_;(conv=>whnf);refine aneed ⟨rfl,by decide,.inr rfl⟩ ?_;refine⟨_,slk_in hL,?_⟩;refine aidxn (i:=1) (x:=.agg [.i .i64 vk,.i .i64 vn,.s vt,.sl 5 (eVs va),eP cS vc]) (rfl) ?_;(conv=>whnf);refine ast (show(!(vk==3))=true by rw[hk];rfl) ?_;(conv=>whnf);refine amc [1000000000,1000000001] 300 (hfl wType) ?_;(conv=>whnf);refine⟨.inl rfl,⟨s6,s6,s6,s6,s6,s6,s6,s6,s6,s6,s6,s6,s6,s6,s6,s6,trivial⟩⟩
 |true=>
  rw[hk]at hF;cases hF;unfold hA hNd hVb cFr giveR at *;dsimp only[eFV]at *;refine AMem.intro (tyOf_ok Tryz.prog) hmix Tryz.func247 rfl (by rfl) (by kernel_rfl) (by show 2≤_;decide) rfl ?_;(conv=>whnf);refine amc [1000000002] 300 hlz ?_;(conv=>whnf);refine aneed ⟨by decide,by decide⟩ ?_;(conv=>whnf);refine aneed ⟨rfl,by decide,.inr rfl⟩ ?_;refine⟨_,slk_in hL,?_⟩;refine aidxn (i:=1) (x:=.agg [.i .i64 vk,.i .i64 vn,.s vt,.sl 5 (eVs va),eP cS vc]) (rfl) ?_;(conv=>whnf);refine asf (show(!(vk==3))=false by rw[hk];rfl) ?_;(conv=>whnf);refine aneed (.inl (by kernel_rfl)) ?_;(conv=>whnf);refine amc [1000000000] 300 hgv ?_;(conv=>whnf);refine⟨.inl rfl,⟨s6,s6,s6,s6,s6,s6,s6,s6,s6,s6,s6,s6,s6,s6,s6,s6,trivial⟩⟩
theorem blk_of {S:Ss} {w:FV} {x:Vl} {xs:List Vl} (hl:isL w=false) (hx:valsOf S w=some (x::xs)):∃kk L,w=.blk kk (xs.length+1)∧tlk kk S.v.2=some (x::xs++L):=by
 cases w with
 |nil=>cases hx
 |lst l=>cases hl
 |blk kk m=>
  unfold valsOf at hx;dsimp only at hx
  cases hL:tlk kk S.v.2 with
  |none=>rw[hL]at hx;cases hx
  |some L=>
   rw[hL]at hx;dsimp only at hx
   cases hg:Nat.ble m L.length&&Nat.ble m 1000000 with
   |false=>rw[hg]at hx;cases hx
   |true=>
    rw[hg]at hx;rw[Bool.and_eq_true]at hg;have hg1:=Nat.le_of_ble_eq_true hg.1;have hx:L.take m=x::xs:=Option.some.inj hx
    have hm:m=xs.length+1:=by
     have:=congrArg List.length hx;rw[List.length_take,List.length_cons]at this;omega
    refine⟨kk,L.drop m,by rw[hm],?_⟩;rw[←hx,List.take_append_drop];exact hL
theorem operator_spec (K:Ks) (S:Ss) (zr:Sto Rn) (k:Nat) (r:Rn) (f:Fr) (R:Ss×Rn) (hr:tlk k zr.2=some r) (hl:isL f.vals=false) (hF:operatorF K S r f=some R):
 AMem Tryz.prog 247 [.p (.adr rS k),.p (.agg (cFr f))] (hA K S zr) (.tup []) (hA K R.1 (zr.1,tset k R.2 zr.2)):=by
 unfold operatorF nodeF at hF
 cases hfn:f.n with
 |none=>rw[hfn]at hF;cases hF
 |some kn=>
  rw[hfn]at hF;dsimp only at hF
  cases hn:tlk kn K.n.2 with
  |none=>rw[hn]at hF;cases hF
  |some n=>
   rw[hn]at hF;dsimp only at hF
   cases hx:valsOf S f.vals with
   |none=>rw[hx]at hF;cases hF
   |some xs=>
    rw[hx]at hF;dsimp only at hF
    cases hz:lazyF n with
    |false=>
     rw[hz]at hF;dsimp only at hF
     cases ho:operateF n.text xs with
     |none=>rw[ho]at hF;cases hF
     |some Q=>
      rw[ho]at hF;dsimp only at hF;have h:=operator_eager K S zr k kn n r f xs Q hr hfn hn hz hx hl ho
      cases hq:eqB Q.2 ⟨#[]⟩ with
      |false=>rw[hq]at hF h;cases hF;exact h
      |true=>rw[hq]at hF h;cases hF;exact h
    |true=>
     rw[hz]at hF;dsimp only at hF;rcases xs with _|⟨u,_|⟨v,_|⟨w,xs⟩⟩⟩
     ·cases hF
     ·obtain⟨kk,L,h1,h2⟩:=blk_of hl hx
      exact operator_lazy K S zr k kn kk n r f u L R hr hfn hn hz h1 h2 hF
     ·obtain⟨kk,L,h1,h2⟩:=blk_of hl hx
      exact operator_two K S zr k kn kk n r f u v L R hr hfn hn hz h1 h2 hF
     ·cases hF
end MN
