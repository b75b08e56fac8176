/- Contracts, and the law, for every input. No conditions. -/
import Derived.Test.YtldppkdekklpkaaGreatDoorXQ
import Derived.Test.YtldppkdekklpkaaGreatDoorPAS
import Derived.Test.YtldppkdekklpkaaGreatDoorAMUse
import Derived.Test.YtldppkdekklpkaaGreatDoorTS2
set_option linter.all false
section
open Go Go.AM Go.Proofs
set_option maxRecDepth 100000
namespace XE
theorem beqB_eq {a b:Bool} (h:beqB a b=true):a=b:=by cases a<;>cases b<;>first|rfl|cases h
mutual
theorem eqD_eq:∀(x y:PV),eqD x y=true→x=y
 |x,y,h=>by
  unfold eqD at h;split at h
  ·simp only[Bool.and_eq_true,decide_eq_true_eq]at h;rw[h.1,h.2]
  ·rw[beqB_eq h]
  ·rw[XE.beqL_eq.1 h]
  ·rw[Bool.and_eq_true]at h;rw[Nat.eq_of_beq_eq_true h.1,eqDs_eq _ _ h.2]
  ·rw[eqDs_eq _ _ h]
  ·cases h
theorem eqDs_eq:∀(x y:List PV),eqDs x y=true→x=y
 |x,y,h=>by
  unfold eqDs at h;split at h
  ·rfl
  ·rw[Bool.and_eq_true]at h;rw[eqD_eq _ _ h.1,eqDs_eq _ _ h.2]
  ·cases h
end
theorem eqA_eq:∀{x y:List AV},eqA x y=true→x=y
 |x,y,h=>by
  unfold eqA at h;split at h
  ·rfl
  ·rw[Bool.and_eq_true]at h;rw[eqD_eq _ _ h.1,eqA_eq h.2]
  ·cases h
def factOK (x:Nat×List AV×AV):Prop:=AMem Tryz.prog x.1 x.2.1 [] x.2.2 []
theorem factF_ok:∀{fx:List (Nat×List AV×AV)} {f:Nat} {az:List AV} {r:AV},factF f az fx=some r→(∀x∈fx,factOK x)→AMem Tryz.prog f az [] r []
 |(g,bz,r')::q,f,az,r,h,hf=>by
  have hq:=fun x hx=>hf x (List.mem_cons_of_mem _ hx);rw[factF]at h;split at h
  ·rename_i h1
   split at h
   ·rename_i h2
    cases h;rw[Nat.eq_of_beq_eq_true h1,eqA_eq h2];exact hf (g,bz,r') (by simp)
   ·exact factF_ok h hq
  ·exact factF_ok h hq
theorem mxClone_ok {az:List AV} {hs h2:Heap} {r:AV} (h:mxClone az hs=some (r,h2)):AMem Tryz.prog 269 az hs r h2:=by
 unfold mxClone at h;split at h
 ·cases h;exact mclone_spec _
 ·cases h
theorem mx_ok {f:Nat} {az:List AV} {hs h2:Heap} {r:AV} (h:mx f az hs=some (r,h2)):AMem Tryz.prog f az hs r h2:=by
 unfold mx at h;split at h
 ·rename_i hb;rw[Nat.eq_of_beq_eq_true hb];exact mxBind_ok h
 ·split at h
  ·rename_i hb;rw[Nat.eq_of_beq_eq_true hb];exact mxCat_ok h
  ·split at h
   ·rename_i hb;rw[Nat.eq_of_beq_eq_true hb];exact mxClone_ok h
   ·cases h
theorem mxF_ok {fx:List (Nat×List AV×AV)} (hf:∀x∈fx,factOK x):∀f az hs r h2,mxF fx f az hs=some (r,h2)→AMem Tryz.prog f az hs r h2:=by
 intro f az hs r h2 h;unfold mxF at h;split at h
 ·split at h
  ·rename_i hq;cases h;exact factF_ok hq hf
  ·exact mx_ok h
 ·exact mx_ok h
theorem tyf_ok:∀f,TyOK Tryz.prog (tyf f):=by
 have h0:=tyOf_ok Tryz.prog;intro f;unfold tyf
 repeat' split
 all_goals first|exact h0|skip
 all_goals first|unfold tyx0|unfold tyx1|unfold tyx2|unfold tyx3|unfold tyx4|unfold tyx5|unfold tyx6|unfold tyx7|skip
 all_goals repeat first|exact h0|refine TyOK.hint ?_ _ _|refine TyOK.hintZ ?_ _ _
theorem ap0 {f:Nat} {args:List AV} {h:Heap} {r:AV} (s:APure Tryz.prog f args r) (hf:AV.frees args=true) {K:List Nat→Heap→AV→Prop} (hk:K [] [] r):pcall Tryz.prog f args h K:=.pure r hf s hk
theorem ext_ok:∀f args h rd hw r,ext f args h=some (rd,hw,r)→∀K:List Nat→Heap→AV→Prop,K rd hw r→pcall Tryz.prog f args h K:=by
 intro f args h rd hw r hx K hk;unfold ext at hx;split at hx
 ·rename_i hb
  have:=Nat.eq_of_beq_eq_true hb;subst this;split at hx
  ·cases hx;exact ap0 TK.words_spec rfl hk
  ·cases hx
 split at hx
 ·rename_i hb
  have:=Nat.eq_of_beq_eq_true hb;subst this;split at hx
  ·rename_i l c;cases hx;exact ap0 (TK.containsB_spec l c) rfl hk
  ·cases hx
 split at hx
 ·rename_i hb
  have:=Nat.eq_of_beq_eq_true hb;subst this;split at hx
  ·rename_i l;cases hx;exact ap0 (TK.word_spec l) rfl hk
  ·cases hx
 split at hx
 ·rename_i hb
  have:=Nat.eq_of_beq_eq_true hb;subst this;split at hx
  ·rename_i l c
   split at hx
   ·rename_i hc
    simp only[Bool.and_eq_true]at hc;have e1:c=32:=UInt8.toNat_inj.1 (Nat.eq_of_beq_eq_true hc.1);subst e1;cases hx;exact ap0 (TK.split_spec l _ rfl (Nat.le_trans (Nat.le_of_ble_eq_true hc.2) (by decide))) rfl hk
   ·cases hx
  ·cases hx
 split at hx
 ·rename_i hb
  have:=Nat.eq_of_beq_eq_true hb;subst this;split at hx
  ·rename_i l _ c hgl
   split at hx
   ·rename_i tab ht
    split at hx
    ·rename_i hc
     simp only[Bool.and_eq_true]at hc;cases hx
     have hev:∃ev,tab=[ev]∧(ev=.nilIface∨∃te pe,ev=.iface te pe):=by
      have h1:=hc.1;unfold evOk at h1;split at h1
      ·exact⟨_,rfl,.inl rfl⟩
      ·exact⟨_,rfl,.inr ⟨_,_,rfl⟩⟩
      ·cases h1
     obtain⟨ev,rfl,hev⟩:=hev;have hm:=PA.pi_holds ev hev ⟨⟨[c]⟩⟩ (by show 1≤5000;decide) hc.2;refine .mem [l] 500 [(1000000000,.glob 1 [ev])] _ _ (by rfl) ?_ hm (by rfl) hk;simp only[subH,ht];rfl
    ·cases hx
   ·cases hx
  ·cases hx
 split at hx
 ·rename_i hb
  have:=Nat.eq_of_beq_eq_true hb;subst this;split at hx
  ·split at hx
   ·rename_i x r' hr;cases hx;exact ap0 (walkX_ok hr) rfl hk
   ·cases hx
  ·cases hx
 split at hx
 ·rename_i hb
  have:=Nat.eq_of_beq_eq_true hb;subst this;split at hx
  ·split at hx
   ·rename_i x r' hr;cases hx;exact ap0 (partsX_ok hr) rfl hk
   ·cases hx
  ·cases hx
 ·cases hx
theorem mem_ok {fx:List (Nat×List AV×AV)} (hf:∀x∈fx,factOK x) {f:Nat} {args:List AV} {hs h':Heap} {r:AV} (hx:mem fx f args hs=some (r,h')):AMem Tryz.prog f args hs r h':=
 xmem_ok tyf_ok TK.hmix fns_ok (xrun_ok tyf_ok TK.hmix fns_ok ext_ok (mxF_ok hf) 400 40) hx
theorem no_facts:∀x∈([]:List (Nat×List AV×AV)),factOK x:=by simp
end XE
end
section
open Go Go.AM Go.Proofs
set_option maxRecDepth 100000
namespace XE
open TK TR
def listsL:Bs:=[109,111,100,117,108,101,32,109,32,49,59,32,100,97,116,97,32,76,105,115,116,91,97,93,32,61,32,78,105,108,32,124,32,67,111,110,115,40,97,44,32,76,105,115,116,40,97,41,41,59,32,102,117,110,32,108,101,110,91,97,93,40,108,58,32,76,105,115,116,40,97,41,41,58,32,105,110,116,32,61,32,109,97,116,99,104,32,108,32,123,32,78,105,108,32,61,62,32,48,59,32,67,111,110,115,40,120,44,32,114,41,32,61,62,32,40,49,32,43,32,108,101,110,40,114,41,41,32,125,59,32,97,99,116,111,114,32,65,40,110,58,32,105,110,116,41,58,32,105,110,116,32,61,32,114,101,99,101,105,118,101,32,123,32,120,32,61,62,32,108,101,116,32,121,32,61,32,115,97,121,40,40,120,32,43,32,110,41,41,32,105,110,32,98,101,99,111,109,101,40,120,41,32,125,59]
def T (k:Int) (n:ByteArray) (a:List Ty):Ty:=.mk k n a
def P (k n:Int) (t:ByteArray) (a:List Pt):Pt:=.mk k n t a
def E (k n:Int) (t:ByteArray) (ns:List ByteArray) (ts:List Ty) (a:List Ex) (r:List Arm) (p:Int):Ex:=.mk k n t ns ts a r p
def z:ByteArray:=⟨#[]⟩
def toks:List Tk:=[⟨3,[109,111,100,117,108,101],0⟩,⟨1,[109],7⟩,⟨4,[49],9⟩,⟨6,[59],10⟩,⟨3,[100,97,116,97],12⟩,⟨2,[76,105,115,116],17⟩,⟨6,[91],21⟩,⟨1,[97],22⟩,⟨6,[93],23⟩,⟨6,[61],25⟩,⟨2,[78,105,108],27⟩,⟨6,[124],31⟩,⟨2,[67,111,110,115],33⟩,⟨6,[40],37⟩,⟨1,[97],38⟩,⟨6,[44],39⟩,⟨2,[76,105,115,116],41⟩,⟨6,[40],45⟩,⟨1,[97],46⟩,⟨6,[41],47⟩,⟨6,[41],48⟩,⟨6,[59],49⟩,⟨3,[102,117,110],51⟩,⟨1,[108,101,110],55⟩,⟨6,[91],58⟩,⟨1,[97],59⟩,⟨6,[93],60⟩,⟨6,[40],61⟩,⟨1,[108],62⟩,⟨6,[58],63⟩,⟨2,[76,105,115,116],65⟩,⟨6,[40],69⟩,⟨1,[97],70⟩,⟨6,[41],71⟩,⟨6,[41],72⟩,⟨6,[58],73⟩,⟨3,[105,110,116],75⟩,⟨6,[61],79⟩,⟨3,[109,97,116,99,104],81⟩,⟨1,[108],87⟩,⟨6,[123],89⟩,⟨2,[78,105,108],91⟩,⟨6,[61,62],95⟩,⟨4,[48],98⟩,⟨6,[59],99⟩,⟨2,[67,111,110,115],101⟩,⟨6,[40],105⟩,⟨1,[120],106⟩,⟨6,[44],107⟩,⟨1,[114],109⟩,⟨6,[41],110⟩,⟨6,[61,62],112⟩,⟨6,[40],115⟩,⟨4,[49],116⟩,⟨6,[43],118⟩,⟨1,[108,101,110],120⟩,⟨6,[40],123⟩,⟨1,[114],124⟩,⟨6,[41],125⟩,⟨6,[41],126⟩,⟨6,[125],128⟩,⟨6,[59],129⟩,⟨3,[97,99,116,111,114],131⟩,⟨2,[65],137⟩,⟨6,[40],138⟩,⟨1,[110],139⟩,⟨6,[58],140⟩,⟨3,[105,110,116],142⟩,⟨6,[41],145⟩,⟨6,[58],146⟩,⟨3,[105,110,116],148⟩,⟨6,[61],152⟩,⟨3,[114,101,99,101,105,118,101],154⟩,⟨6,[123],162⟩,⟨1,[120],164⟩,⟨6,[61,62],166⟩,⟨3,[108,101,116],169⟩,⟨1,[121],173⟩,⟨6,[61],175⟩,⟨3,[115,97,121],177⟩,⟨6,[40],180⟩,⟨6,[40],181⟩,⟨1,[120],182⟩,⟨6,[43],184⟩,⟨1,[110],186⟩,⟨6,[41],187⟩,⟨6,[41],188⟩,⟨3,[105,110],190⟩,⟨3,[98,101,99,111,109,101],193⟩,⟨6,[40],199⟩,⟨1,[120],200⟩,⟨6,[41],201⟩,⟨6,[125],203⟩,⟨6,[59],204⟩]
noncomputable def pgL:LPg:=⟨(B [109]),1,[],[⟨(B [76,105,115,116]),[(B [97])],[⟨(B [78,105,108]),[]⟩,⟨(B [67,111,110,115]),[(T 5 (B [97]) []),(T 6 (B [76,105,115,116]) [(T 5 (B [97]) [])])]⟩]⟩],[],[],[⟨(B [108,101,110]),[(B [97])],[(B [108])],[(T 6 (B [76,105,115,116]) [(T 5 (B [97]) [])])],(T 1 z []),(E 13 0 z [] [] [(E 5 0 (B [108]) [] [] [] [] 87)] [(.mk (P 6 0 (B [78,105,108]) []) (E 2 0 z [] [] [] [] 98)),(.mk (P 6 0 (B [67,111,110,115]) [(P 2 0 (B [120]) []),(P 2 0 (B [114]) [])]) (E 8 0 (B [43]) [] [] [(E 2 1 z [] [] [] [] 116),(E 9 0 (B [108,101,110]) [] [] [(E 5 0 (B [114]) [] [] [] [] 124)] [] 120)] [] 115))] 81)⟩],[⟨(B [65]),[(B [110])],[(T 1 z [])],(T 1 z []),(E 18 (-1) z [] [] [] [(.mk (P 2 0 (B [120]) []) (E 6 0 (B [121]) [] [] [(E 20 0 z [] [] [(E 8 0 (B [43]) [] [] [(E 5 0 (B [120]) [] [] [] [] 182),(E 5 0 (B [110]) [] [] [] [] 186)] [] 181)] [] 177),(E 17 0 z [] [] [(E 5 0 (B [120]) [] [] [] [] 200)] [] 193)] [] 169))] 154)⟩]⟩
def textQ:Bs:=[109,111,100,117,108,101,32,109,32,49,59,32,102,117,110,32,102,40,120,58,32,105,110,116,41,58,32,116,101,120,116,32,61,32,120,59]
def toksQ:List Tk:=[⟨3,[109,111,100,117,108,101],0⟩,⟨1,[109],7⟩,⟨4,[49],9⟩,⟨6,[59],10⟩,⟨3,[102,117,110],12⟩,⟨1,[102],16⟩,⟨6,[40],17⟩,⟨1,[120],18⟩,⟨6,[58],19⟩,⟨3,[105,110,116],21⟩,⟨6,[41],24⟩,⟨6,[58],25⟩,⟨3,[116,101,120,116],27⟩,⟨6,[61],32⟩,⟨1,[120],34⟩,⟨6,[59],35⟩]
noncomputable def hq:Heap:=[(1000000000,.store 32 false 0 0 3 []),(1000000001,.store 226 false 1 0 4 []),(1000000002,.store 244 true 2 0 10 []),(1000000003,.store 189 false 3 0 1 []),(1000000004,.store 98 true 4 0 14 [])]
noncomputable def pgQ:LPg:=⟨(B [109]),1,[],[],[],[],[⟨(B [102]),[],[(B [120])],[(T 1 z [])],(T 3 z []),(E 5 0 (B [120]) [] [] [] [] 34)⟩],[]⟩
noncomputable def fuL:PV:=match pgL.funcs with|f::_=>elFu f | []=>.nilp
noncomputable def acL:PV:=match pgL.actors with|f::_=>elAc f | []=>.nilp
noncomputable def fuQ:PV:=match pgQ.funcs with|f::_=>elFu f | []=>.nilp
end XE
end
section
namespace Go.AM
mutual
def plainP:PV→Bool
 |.b _=>true
 |.i _ _=>true
 |.s _=>true
 |.sl _ xs=>plainPs xs
 |.agg xs=>plainPs xs
 |.nilp=>true
 |.nsl=>true
 |.bx cs=>plainPs cs
 |.adr _ _=>false
 |.ads _ _ _=>false
 |.pa _ _ _ _ _ _ _=>false
 |.ifv _ x=>plainP x
 |.nifc=>true
 |.amp _ _=>false
def plainPs:List PV→Bool
 | []=>true
 |x::r=>plainP x&&plainPs r
end
theorem plainPs_get:∀{l:List PV},plainPs l=true→∀(j:Nat) (x:PV),l[j]?=some x→plainP x=true
 | [],_,j,x,h=>by simp at h
 |a::r,h,0,x,hx=>by simp at hx;subst hx;rw[plainPs,Bool.and_eq_true]at h;exact h.1
 |a::r,h,j+1,x,hx=>by rw[plainPs,Bool.and_eq_true]at h;exact plainPs_get h.2 j x (by simpa using hx)
theorem plain_cells {x y:PV} {i:Nat} (h:plainP x=true) (hy:x.cells[i]?=some y):plainP y=true:=by
 cases x with
 |agg xs=>exact plainPs_get (l:=xs) (by simpa[plainP] using h) i y hy
 |_=>
  have:i=0:=by have:=(List.getElem?_eq_some_iff.1 hy).1;simp[PV.cells]at this;exact this
  subst this;simp[PV.cells]at hy;subst hy;exact h
theorem PRel.plain {M M':Mm} (hm:∀b o v,M b o=some v→M' b o=some v) {v:Value} {x:PV} (r:PRel M v x) (hp:plainP x=true):PRel M' v x:=by
 induction r with
 |b x=>exact .b x
 |i k n=>exact .i k n
 |s x=>exact .s x
 |agg vs xs hl h1 _ ih=>exact .agg vs xs hl h1 (fun j v x q1 q2=>ih j v x q1 q2 (plainPs_get (by simpa[plainP] using hp) j x q2))
 |nil sz=>exact .nil sz
 |sl a cap sz xs f hs hc hz hm2 _ ih=>exact .sl a cap sz xs f hs hc hz (fun j x hj i y hi=>⟨hm _ _ _ (hm2 j x hj i y hi).1,(hm2 j x hj i y hi).2⟩) (fun j x hj i y hi=>ih j x hj i y hi (plain_cells (plainPs_get (by simpa[plainP] using hp) j x hj) hi))
 |nilp=>exact .nilp
 |nsl=>exact .nsl
 |adr=>cases hp
 |ads=>cases hp
 |pa=>cases hp
 |ifv T v x _ ih=>exact .ifv T v x (ih (by simpa[plainP] using hp))
 |nifc=>exact .nifc
 |amp=>cases hp
 |bx a cs f hs2 hm2 _ ih=>exact .bx a cs f hs2 (fun i y hi=>⟨hm _ _ _ (hm2 i y hi).1,(hm2 i y hi).2⟩) (fun i y hi=>ih i y hi (plainPs_get (by simpa[plainP] using hp) i y hi))
def plainA:AV→Bool
 |.p x=>plainP x
 |_=>false
def sownOf:Heap→Nat→Option Nat
 | [],_=>none
 |(l,.store _ _ sp _ _ _)::r,s=>match Nat.beq sp s with|true=>some l|false=>sownOf r s
 |_::r,s=>sownOf r s
def emptySt (all:Heap):Heap→Bool
 | []=>true
 |(l,.store _ _ sp nx _ M)::r=>Nat.beq nx 0&&M.isEmpty&&(match sownOf all sp with|some l'=>Nat.beq l' l|none=>false)&&emptySt all r
 |_::_=>false
theorem emptySt_get {all:Heap}:∀{st:Heap},emptySt all st=true→∀{l:Nat} {ob:AObj},hget st l=some ob→∃T o sp sz,ob=.store T o sp 0 sz []∧sownOf all sp=some l
 | [],_,l,ob,h=>by simp[hget]at h
 |(k,x)::r,hs,l,ob,h=>by
  cases x with
  |store T o sp nx sz M=>
   simp only[emptySt,Bool.and_eq_true]at hs;obtain⟨⟨⟨h1,h2⟩,h3⟩,h4⟩:=hs
   by_cases e:k=l
   ·subst e
    rw[hget_self]at h;cases h;obtain rfl:=Nat.eq_of_beq_eq_true h1;have hM:M=[]:=List.isEmpty_iff.1 h2;subst hM;refine⟨T,o,sp,sz,rfl,?_⟩;split at h3
    ·rename_i l' hl;rw[hl,Nat.eq_of_beq_eq_true h3]
    ·cases h3
   ·rw[hget_ne e]at h;exact emptySt_get h4 h
  |_=>simp[emptySt]at hs
def allGl:Heap→Bool
 | []=>true
 |(_,.glob _ _)::r=>allGl r
 |_::_=>false
theorem allGl_get:∀{G:Heap},allGl G=true→∀{l:Nat} {ob:AObj},hget G l=some ob→∃b vs,ob=.glob b vs
 | [],_,l,ob,h=>by simp[hget]at h
 |(k,x)::r,hs,l,ob,h=>by
  cases x with
  |glob b vs=>
   by_cases e:k=l
   ·subst e;rw[hget_self]at h;cases h;exact⟨b,vs,rfl⟩
   ·rw[hget_ne e]at h;exact allGl_get (by simpa[allGl] using hs) h
  |_=>simp[allGl]at hs
theorem hget_app (G st:Heap) (l:Nat):hget (G++st) l=match hget G l with|some ob=>some ob|none=>hget st l:=by
 induction G with
 |nil=>simp[hget]
 |cons p r ih=>
  obtain⟨k,x⟩:=p
  by_cases e:k=l
  ·subst e;rw[List.cons_append,hget_self,hget_self]
  ·rw[List.cons_append,hget_ne e,hget_ne e,ih]
theorem AMem.hide0 {P:Program} {f:Nat} {args:List AV} {G st st':Heap} {r:AV} (h:AMem P f args (G++st) r (G++st')) (ha:args.all plainA=true) (hG:allGl G=true) (hst:emptySt st st=true)
 (hr:∀(g g2:Gh) (w:World) (d d2:Nat→Prop) (o o2:Option Owner) (v:Value),(∀b i u,imm g w b i=some u→imm g2 w b i=some u)→VRel g w d o v r→VRel g2 w d2 o2 v r):AMem P f args G r G:=by
 obtain⟨⟨hb,hgl⟩,hc⟩:=h
 have hgl2:globB G G=true:=by
  have key:∀(A:Heap),(∀p∈A,∀b vs,p.2=.glob b vs→∃vs',hget G p.1=some (.glob b vs'))→globB G A=true:=by
   intro A
   induction A with
   |nil=>intro _;rfl
   |cons p r ih=>
    intro hA;obtain⟨l,ob⟩:=p;simp only[globB,Bool.and_eq_true];refine⟨?_,ih fun q hq=>hA q (by simp[hq])⟩
    cases ob with
    |glob b vs=>
     obtain⟨vs',hq⟩:=hA (l,.glob b vs) (by simp) b vs rfl;simp only[hq];exact Nat.beq_refl b
    |_=>rfl
  have sub:∀(A B:Heap),globB (G++st) (A++B)=true→globB (G++st) A=true:=by
   intro A B
   induction A with
   |nil=>intro _;rfl
   |cons p r ih=>intro q;obtain⟨l,ob⟩:=p;simp only[List.cons_append,globB,Bool.and_eq_true]at q ⊢;exact⟨q.1,ih q.2⟩
  have h1:=sub G st' hgl;clear hgl key;generalize hA:G=A at h1 ⊢
  have:∀(B:Heap),globB (A++st) B=true→globB A B=true:=by
   intro B
   induction B with
   |nil=>intro _;rfl
   |cons p r ih=>
    intro q;obtain⟨l,ob⟩:=p;simp only[globB,Bool.and_eq_true]at q ⊢;refine⟨?_,ih q.2⟩
    cases ob with
    |glob b vs=>
     have q1:=q.1;simp only[hget_app]at q1
     cases hq:hget A l with
     |some ob2=>rw[hq]at q1;simpa using q1
     |none=>
      rw[hq]at q1;simp only at q1;split at q1
      ·rename_i b' vs' hq2
       obtain⟨T,o,sp,sz,e,_⟩:=emptySt_get hst hq2;cases e
      ·cases q1
    |_=>rfl
  exact this A h1
 refine⟨⟨hb,hgl2⟩,fun g w vs hH hbn hl hrel=>?_⟩
 let g':Gh:={ g with σ:=fun _ _=>none,sown:=sownOf st }
 have hH':HRel g' w (G++st):=by
  refine⟨fun l ob hob=>?_,fun l ob hob hs=>?_,fun l ob hob hs=>?_⟩
  ·rw[hget_app]at hob
   cases hq:hget G l with
   |some ob2=>
    rw[hq]at hob;cases hob;obtain⟨b,vs,rfl⟩:=allGl_get hG hq
    cases hH.obj l _ hq with
    |glob _ _ q=>exact .glob b vs q
   |none=>
    rw[hq]at hob;obtain⟨T,o,sp,sz,rfl,hso⟩:=emptySt_get hst hob;exact .store _ _ _ _ _ _ { sown:=hso,fresh:=fun _ _=>rfl,row:=fun _ _ q=>absurd q (by simp),inj:=fun _ _ _ _ _ _ q=>absurd q (by simp),nodup:=List.nodup_nil }
  ·rw[hget_app]at hob
   cases hq:hget G l with
   |some ob2=>rw[hq]at hob;cases hob;obtain⟨b,vs,rfl⟩:=allGl_get hG hq;cases hs
   |none=>rw[hq]at hob;obtain⟨T,o,sp,sz,rfl,_⟩:=emptySt_get hst hob;cases hs
  ·rw[hget_app]at hob
   cases hq:hget G l with
   |some ob2=>rw[hq]at hob;cases hob;obtain⟨b,vs,rfl⟩:=allGl_get hG hq;cases hs
   |none=>rw[hq]at hob;obtain⟨T,o,sp,sz,rfl,_⟩:=emptySt_get hst hob;cases hs
 have hrel':∀(j:Nat) (v:Value) (x:AV),vs[j]?=some v→args[j]?=some x→VRel g' w (domOf (G++st)) none v x:=fun j v x q1 q2=>by
  have hp:=List.all_eq_true.1 ha x (List.mem_of_getElem? q2);have hv:=hrel j v x q1 q2
  cases x with
  |p x=>exact .p _ _ _ (PRel.plain (M:=imm g w) (M':=imm g' w) (fun _ _ _ q=>q) hv.pv hp)
  |_=>cases hp
 refine(hc g' w vs hH' hbn hl hrel').mono ?_;rintro en w' ⟨v,g1,rfl,hv,hH1,hbn1,hE⟩
 let gF:Gh:={ pre:=g1.pre,own:=fun b=>if b<w.heap.size then g1.own b else none,ρ:=g1.ρ,σ:=g.σ,sown:=g.sown }
 refine⟨v,gF,rfl,hr g1 gF w' _ _ _ _ v (fun _ _ _ q=>q) hv,⟨fun l ob hob=>?_,fun l ob hob hs=>?_,fun l ob hob hs=>?_⟩,fun b o q=>?_,?_⟩
 ·obtain⟨b,vs,rfl⟩:=allGl_get hG hob
  have hob1:hget (G++st') l=some (.glob b vs):=by rw[hget_app,hob]
  cases hH1.obj l _ hob1 with
  |glob _ _ q=>exact .glob b vs ⟨by show(if b<w.heap.size then g1.own b else none)=none;split<;>first|exact q.1|rfl,q.2⟩
 ·obtain⟨b,vs,rfl⟩:=allGl_get hG hob;cases hs
 ·obtain⟨b,vs,rfl⟩:=allGl_get hG hob;cases hs
 ·replace q:(if b<w.heap.size then g1.own b else none)=some o:=q
  split at q
  ·exact hbn1 b o q
  ·cases q
 ·exact⟨hE.size,hE.os,hE.out,fun b o u hu=>hE.imm b o u hu,fun b hb hn=>by
   obtain⟨q1,q2,q3⟩:=hE.kept b hb hn;exact⟨q1,q2,by show(if b<w.heap.size then g1.own b else none)=none;rw[if_pos hb];exact q3⟩,SgLe.of rfl rfl,hE.frz',hE.ρk,hE.siz⟩
def plainR:AV→Bool
 |.p x=>plainP x
 |.tup vs=>vs.all fun v=>match v with|.p x=>plainP x|_=>false
 |_=>false
theorem plainR_rel {g g2:Gh} {w:World} {dom dom2:Nat→Prop} {ow ow2:Option Owner} {v:Value} {x:AV} (hm:∀b i u,imm g w b i=some u→imm g2 w b i=some u) (r:VRel g w dom ow v x) (hf:plainR x=true):VRel g2 w dom2 ow2 v x:=by
 cases r with
 |p _ _ _ h=>exact .p _ _ _ (PRel.plain hm h (by simpa[plainR] using hf))
 |tup _ vs cs hl hx=>
  refine .tup _ vs cs hl fun j v c q1 q2=>?_;simp only[plainR,List.all_eq_true]at hf;have:=hf c (List.mem_of_getElem? q2);split at this
  ·have hr:=hx j v _ q1 q2
   cases hr with
   |p _ _ _ h=>exact .p _ _ _ (PRel.plain hm h this)
  ·cases this
 |_=>simp[plainR]at hf
theorem AMem.hideR {P:Program} {f:Nat} {args:List AV} {G st st':Heap} {r:AV} (h:AMem P f args (G++st) r (G++st')) (ha:args.all plainA=true) (hG:allGl G=true) (hst:emptySt st st=true) (hr:plainR r=true):AMem P f args G r G:=
 h.hide0 ha hG hst fun _ _ _ _ _ _ _ _ hm hv=>plainR_rel hm hv hr
end Go.AM
end
section
open Go Go.AM Go.Proofs
set_option maxRecDepth 100000
namespace XE
open TK TR
def fst1 (x:Option (AV×Heap)):Option AV:=match x with|some (r,_)=>some r|none=>none
theorem fact_hide {fx:List (Nat×List AV×AV)} (hf:∀x∈fx,factOK x) {f:Nat} {args:List AV} {r:AV} (h:fst1 (mem fx f args hq)=some r) (ha:args.all plainA=true) (hr:plainR r=true):factOK (f,args,r):=by
 unfold fst1 at h;split at h
 ·rename_i r' h' hm
  cases h;exact AMem.hideR (G:=[]) (st:=hq) (st':=h') (mem_ok hf hm) ha rfl (by rfl) hr
 ·cases h
noncomputable def L59:AV:=(.tup [(.p (.sl 3 [(.agg [(.i .i64 1),(.s (B [])),(.sl 3 [])]),(.agg [(.i .i64 6),(.s (B [76,105,115,116])),(.sl 3 [(.agg [(.i .i64 5),(.s (B [97])),(.sl 3 [])])])]),(.agg [(.i .i64 1),(.s (B [])),(.sl 3 [])]),(.agg [(.i .i64 1),(.s (B [])),(.sl 3 [])]),(.agg [(.i .i64 1),(.s (B [])),(.sl 3 [])]),(.agg [(.i .i64 1),(.s (B [])),(.sl 3 [])]),(.agg [(.i .i64 6),(.s (B [76,105,115,116])),(.sl 3 [(.agg [(.i .i64 5),(.s (B [97])),(.sl 3 [])])])])])),(.p (.i .i64 0)),(.p (.i .i64 0))])
noncomputable def L60:AV:=(.tup [(.p (.sl 3 [(.agg [(.i .i64 4),(.s (B [])),(.sl 3 [])]),(.agg [(.i .i64 4),(.s (B [])),(.sl 3 [])]),(.agg [(.i .i64 4),(.s (B [])),(.sl 3 [])]),(.agg [(.i .i64 1),(.s (B [])),(.sl 3 [])]),(.agg [(.i .i64 1),(.s (B [])),(.sl 3 [])]),(.agg [(.i .i64 1),(.s (B [])),(.sl 3 [])]),(.agg [(.i .i64 4),(.s (B [])),(.sl 3 [])]),(.agg [(.i .i64 1),(.s (B [])),(.sl 3 [])])])),(.p (.i .i64 0)),(.p (.i .i64 0))])
noncomputable def Q59:AV:=(.tup [(.p (.sl 3 [])),(.p (.i .i64 12)),(.p (.i .i64 34))])
end XE
end
