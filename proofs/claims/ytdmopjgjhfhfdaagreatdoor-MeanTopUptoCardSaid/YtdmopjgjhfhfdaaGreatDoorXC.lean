/- Contracts, and the law, for every input. No conditions. -/
import Derived.Test.YtdmopjgjhfhfdaaGreatDoorXT
set_option linter.all false
set_option maxRecDepth 100000
open Go Go.AM Go.Proofs TK TR
namespace XE
theorem Qy {f:Nat} {args:List AV} {h:Heap} {r:AV} (s:aU Tryz.prog f args r) (hf:AV.pJ args=true) {K:List Nat->Heap->AV->Prop} (hk:K [] [] r):cU Tryz.prog f args h K:=.pure r hf s hk
theorem Pb:∀f args h rd hw r,ext f args h=some (rd,hw,r)->∀K:List Nat->Heap->AV->Prop,K rd hw r->cU Tryz.prog f args h K:=by
 intro f args h rd hw r hx K hk;unfold ext at hx;split at hx
 ·rename_i hb
  have:=Nat.eq_of_beq_eq_true hb;subst this;split at hx
  ·cases hx;exact Qy yZ rfl hk
  ·cases hx
 split at hx
 ·rename_i hb
  have:=Nat.eq_of_beq_eq_true hb;subst this;split at hx
  ·rename_i l c;cases hx;exact Qy (zd l c) rfl hk
  ·cases hx
 split at hx
 ·rename_i hb
  have:=Nat.eq_of_beq_eq_true hb;subst this;split at hx
  ·rename_i l;cases hx;exact Qy (JJ l) rfl hk
  ·cases hx
 split at hx
 ·rename_i hb
  have:=Nat.eq_of_beq_eq_true hb;subst this;split at hx
  ·rename_i l c
   split at hx
   ·rename_i hc
    simp only[Bool.and_eq_true]at hc;have e1:c=32:=UInt8.toNat_inj.1 (Nat.eq_of_beq_eq_true hc.1);subst e1;cases hx;exact Qy (yd l _ rfl (Nat.le_trans (Nat.le_of_ble_eq_true hc.2) (by decide))) rfl hk
   ·cases hx
  ·cases hx
 split at hx
 ·rename_i hb
  have:=Nat.eq_of_beq_eq_true hb;subst this;split at hx
  ·rename_i l _ c hgl
   split at hx
   ·rename_i tab ht
    split at hx
    ·rename_i hc
     simp only[Bool.and_eq_true]at hc;cases hx
     have hev:∃ev,tab=[ev]/\(ev=.nilIface\/∃te pe,ev=.iface te pe):=by
      have h1:=hc.1;unfold PX at h1;split at h1
      ·exact⟨_,rfl,.inl rfl⟩
      ·exact⟨_,rfl,.inr ⟨_,_,rfl⟩⟩
      ·cases h1
     obtain⟨ev,rfl,hev⟩:=hev;have hm:=PA.KH ev hev ⟨⟨[c]⟩⟩ (by show 1<=5000;decide) hc.2;refine .mem [l] 500 [(1000000000,.bJ 2 [ev])] _ _ (by rfl) ?_ hm (by rfl) hk;simp only[pN,ht];rfl
    ·cases hx
   ·cases hx
  ·cases hx
 ·cases hx
theorem Cm {f:Nat} {args:List AV} {hs h':Heap} {r:AV} (hx:mem f args hs=some (r,h')):au Tryz.prog f args hs r h':=
 Hx (aG Tryz.prog) TK.av Kd (G9 (aG Tryz.prog) TK.av Kd Pb 400 40) hx
def vL:Bs:=[109,111,100,117,108,101,32,109,32,49,59,32,100,97,116,97,32,76,105,115,116,91,97,93,32,61,32,78,105,108,32,124,32,67,111,110,115,40,97,44,32,76,105,115,116,40,97,41,41,59,32,102,117,110,32,108,101,110,91,97,93,40,108,58,32,76,105,115,116,40,97,41,41,58,32,105,110,116,32,61,32,109,97,116,99,104,32,108,32,123,32,78,105,108,32,61,62,32,48,59,32,67,111,110,115,40,120,44,32,114,41,32,61,62,32,40,49,32,43,32,108,101,110,40,114,41,41,32,125,59,32,97,99,116,111,114,32,65,40,110,58,32,105,110,116,41,58,32,105,110,116,32,61,32,114,101,99,101,105,118,101,32,123,32,120,32,61,62,32,108,101,116,32,121,32,61,32,115,97,121,40,40,120,32,43,32,110,41,41,32,105,110,32,98,101,99,111,109,101,40,120,41,32,125,59]
def T (k:Int) (n:ByteArray) (a:List Ty):Ty:=.mk k n a
def P (k n:Int) (t:ByteArray) (a:List Pt):Pt:=.mk k n t a
def E (k n:Int) (t:ByteArray) (ns:List ByteArray) (ts:List Ty) (a:List Ex) (r:List eZ) (p:Int):Ex:=.mk k n t ns ts a r p
def z:ByteArray:=⟨#[]⟩
def toks:List Tk:=[⟨3,[109,111,100,117,108,101],0⟩,⟨1,[109],7⟩,⟨4,[49],9⟩,⟨6,[59],10⟩,⟨3,[100,97,116,97],12⟩,⟨2,[76,105,115,116],17⟩,⟨6,[91],21⟩,⟨1,[97],22⟩,⟨6,[93],23⟩,⟨6,[61],25⟩,⟨2,[78,105,108],27⟩,⟨6,[124],31⟩,⟨2,[67,111,110,115],33⟩,⟨6,[40],37⟩,⟨1,[97],38⟩,⟨6,[44],39⟩,⟨2,[76,105,115,116],41⟩,⟨6,[40],45⟩,⟨1,[97],46⟩,⟨6,[41],47⟩,⟨6,[41],48⟩,⟨6,[59],49⟩,⟨3,[102,117,110],51⟩,⟨1,[108,101,110],55⟩,⟨6,[91],58⟩,⟨1,[97],59⟩,⟨6,[93],60⟩,⟨6,[40],61⟩,⟨1,[108],62⟩,⟨6,[58],63⟩,⟨2,[76,105,115,116],65⟩,⟨6,[40],69⟩,⟨1,[97],70⟩,⟨6,[41],71⟩,⟨6,[41],72⟩,⟨6,[58],73⟩,⟨3,[105,110,116],75⟩,⟨6,[61],79⟩,⟨3,[109,97,116,99,104],81⟩,⟨1,[108],87⟩,⟨6,[123],89⟩,⟨2,[78,105,108],91⟩,⟨6,[61,62],95⟩,⟨4,[48],98⟩,⟨6,[59],99⟩,⟨2,[67,111,110,115],101⟩,⟨6,[40],105⟩,⟨1,[120],106⟩,⟨6,[44],107⟩,⟨1,[114],109⟩,⟨6,[41],110⟩,⟨6,[61,62],112⟩,⟨6,[40],115⟩,⟨4,[49],116⟩,⟨6,[43],118⟩,⟨1,[108,101,110],120⟩,⟨6,[40],123⟩,⟨1,[114],124⟩,⟨6,[41],125⟩,⟨6,[41],126⟩,⟨6,[125],128⟩,⟨6,[59],129⟩,⟨3,[97,99,116,111,114],131⟩,⟨2,[65],137⟩,⟨6,[40],138⟩,⟨1,[110],139⟩,⟨6,[58],140⟩,⟨3,[105,110,116],142⟩,⟨6,[41],145⟩,⟨6,[58],146⟩,⟨3,[105,110,116],148⟩,⟨6,[61],152⟩,⟨3,[114,101,99,101,105,118,101],154⟩,⟨6,[123],162⟩,⟨1,[120],164⟩,⟨6,[61,62],166⟩,⟨3,[108,101,116],169⟩,⟨1,[121],173⟩,⟨6,[61],175⟩,⟨3,[115,97,121],177⟩,⟨6,[40],180⟩,⟨6,[40],181⟩,⟨1,[120],182⟩,⟨6,[43],184⟩,⟨1,[110],186⟩,⟨6,[41],187⟩,⟨6,[41],188⟩,⟨3,[105,110],190⟩,⟨3,[98,101,99,111,109,101],193⟩,⟨6,[40],199⟩,⟨1,[120],200⟩,⟨6,[41],201⟩,⟨6,[125],203⟩,⟨6,[59],204⟩]
def NC:nX:=⟨(B [109]),1,[],[⟨(B [76,105,115,116]),[(B [97])],[⟨(B [78,105,108]),[]⟩,⟨(B [67,111,110,115]),[(T 5 (B [97]) []),(T 6 (B [76,105,115,116]) [(T 5 (B [97]) [])])]⟩]⟩],[],[],[⟨(B [108,101,110]),[(B [97])],[(B [108])],[(T 6 (B [76,105,115,116]) [(T 5 (B [97]) [])])],(T 1 z []),(E 13 0 z [] [] [(E 5 0 (B [108]) [] [] [] [] 87)] [(.mk (P 6 0 (B [78,105,108]) []) (E 2 0 z [] [] [] [] 98)),(.mk (P 6 0 (B [67,111,110,115]) [(P 2 0 (B [120]) []),(P 2 0 (B [114]) [])]) (E 8 0 (B [43]) [] [] [(E 2 1 z [] [] [] [] 116),(E 9 0 (B [108,101,110]) [] [] [(E 5 0 (B [114]) [] [] [] [] 124)] [] 120)] [] 115))] 81)⟩],[⟨(B [65]),[(B [110])],[(T 1 z [])],(T 1 z []),(E 18 (-1) z [] [] [] [(.mk (P 2 0 (B [120]) []) (E 6 0 (B [121]) [] [] [(E 20 0 z [] [] [(E 8 0 (B [43]) [] [] [(E 5 0 (B [120]) [] [] [] [] 182),(E 5 0 (B [110]) [] [] [] [] 186)] [] 181)] [] 177),(E 17 0 z [] [] [(E 5 0 (B [120]) [] [] [] [] 200)] [] 193)] [] 169))] 154)⟩]⟩
theorem RA:au Tryz.prog 41 [.p (.s (B vL))] [] (.cI [.p (.sl 3 (toks.map Qr)),.p (.i .i64 0),.p (.i .i64 0)]) []:=Cm (by kernel_rfl)
theorem RC:au Tryz.prog 44 [.p (iY NC)] [] (.p (.i .i64 0)) []:=Cm (by kernel_rfl)
end XE
