/-
  DERIVED. Part of an abstract machine over plain values, sound against the model. No conditions.
-/
import Derived.Test.YtmakmpapchiioaaGreatDoorAMMv
namespace Go.AM
section
variable {P:Program} {ty:Nat→Option TI} {n:Nat}
theorem wp_awpS (hty:TyOK P ty) (hmix:P.follows .mixedOrders=true) {T:Env→Heap→Prop} {g0:Gh} {w0:World} {Ω:Exit→Act→World→Prop}:∀(k:Nat) (c:Code) (e:Env) (h:Heap),codeOK n c=true→
 (∀e1 h1 g1 w1 a1,T e1 h1→Sim g1 w1 n a1 e1 h1→Ext g0 w0 g1 w1→(restS k c).wp P Ω a1 w1)→awpS ty P n T (fun _ _ _=>False) k c e h→∀g w a,Sim g w n a e h→Ext g0 w0 g w→c.wp P Ω a w
 |0,c,e,h,_,hT,hk,g,w,a,s,hE=>hT e h g w a hk s hE
 |k+1,.seq x y,e,h,hok,hT,hk,g,w,a,s,hE=>by
  have hok:codeOK n x=true∧codeOK n y=true:=by simpa[codeOK] using hok
  refine wp_seq (wp_mono (awp_sound hty hmix x _ e h hok.1 hk g0 w0 g w a s hE) ?_)
  rintro ex a' w' ⟨g',e',h',hk',s',hE'⟩
  cases ex with
  |normal=>exact wp_awpS hty hmix k y e' h' hok.2 hT hk' g' w' a' s' hE'
  |_=>exact hk'.elim
 |_+1,.skip,_,_,_,_,hk,_,_,_,_,_=>hk.elim
 |_+1,.region ..,_,_,_,_,hk,_,_,_,_,_=>hk.elim
 |_+1,.cond ..,_,_,_,_,hk,_,_,_,_,_=>hk.elim
 |_+1,.block ..,_,_,_,_,hk,_,_,_,_,_=>hk.elim
 |_+1,.exit _,_,_,_,_,hk,_,_,_,_,_=>hk.elim
 |_+1,.ret,_,_,_,_,hk,_,_,_,_,_=>hk.elim
 |_+1,.loop _,_,_,_,_,hk,_,_,_,_,_=>hk.elim
 |_+1,.rangeFunc ..,_,_,_,_,hk,_,_,_,_,_=>hk.elim
 |_+1,.scope _,_,_,_,_,hk,_,_,_,_,_=>hk.elim
 |_+1,.label _,_,_,_,_,hk,_,_,_,_,_=>hk.elim
 |_+1,.goto _,_,_,_,_,hk,_,_,_,_,_=>hk.elim
 |_+1,.refuse _,_,_,_,_,hk,_,_,_,_,_=>hk.elim
end
end Go.AM
