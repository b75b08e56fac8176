/-
  DERIVED. Part of an abstract machine over plain values, proved sound against the model: no statement about a program. No conditions.
-/
import Derived.Test.YtfnghigkbcbjiaaDoorAMMem3
import Derived.Test.YtfnghigkbcbjiaaDoorAMSndB
namespace Go.AM
section
variable {P : Program} {ty : Nat → Option TI} {n : Nat}

/-- every operation is sound -/
theorem aop_sound (hty : TyOK P ty) {mv : Nat → Bool} {o : Oper} {e : Env} {h : Heap} {K : AK} (hd : ∀ d, o.dst = some d → d < n) (hst : ∀ t x y, o.op = .store t x y → o.dst = none) (hst2 : ∀ t m k v, o.op = .mapUpdate t m k v ∨ o.op = .insert t m k v → o.dst = none) (hk : aop ty (pcall P) mv o e h K) : ∃ f, K f ∧ OpOK P n o e h f := by
  unfold aop at hk
  split at hk
  · rename_i t ho; exact aMove_sound hd (.inl ho) hk
  · rename_i x hx ho; exact operand_sound hd (.inl ho) (fun t q => hx t q) hk
  · rename_i t ho; exact aMove_sound hd (.inr ho) hk
  · rename_i x hx ho; exact operand_sound hd (.inr ho) (fun t q => hx t q) hk
  · rename_i c x y ho
    split at hk
    · rename_i gd hc; exact aPick_sound hd ho hc hk
    · exact hk.elim
  · rename_i t ho; exact aAlloc_sound hty hd ho hk
  · rename_i t x ho; exact aBox_sound hd ho hk
  · rename_i t parts ho; exact aBuild_sound hty hd ho hk
  · rename_i t len parts ho; exact aBuildSlice_sound hty hd ho hk
  · rename_i t x ho; exact aLoad_sound hty hd ho hk
  · rename_i t x y ho; exact aStore_sound hty ho (hst _ _ _ ho) hk
  · rename_i x ho; exact aNil_sound hd ho hk
  · rename_i op t x y t' ho; exact aBin_sound hty hd ho hk
  · rename_i op t x ho; exact aUn_sound hd ho hk
  · rename_i src dst x ho; exact aConv_sound hty hd ho hk
  · rename_i f first caps ho; exact aFunc_sound hd ho hk
  · rename_i t st lo ho
    split at hk
    · rename_i sz xs hx; exact aSliceO_sound hty hd ho hx hk
    · rename_i l sz m hx; exact aSliceT_sound hty hd ho hx hk
    · exact aSlice_sound hty hd ho hk
  · rename_i t st u ho
    split at hk
    · rename_i l sz m hx; exact aSliceA_sound hty hd ho hx hk
    · rename_i l hx; exact aSliceR_sound hty hd ho hx hk
    · exact aSlice_sound hty hd ho hk
  · rename_i t x lo hi _ _ ho; exact aSlice_sound hty hd ho hk
  · rename_i s x f ho; exact aFieldAddr_sound hty hd ho hk
  · rename_i t x f ho
    exact aField_sound hty hd ho hk
  · rename_i t x ix ho; exact aIndexAddr_sound hty hd ho hk
  · rename_i x m ho; exact aExtract_sound hd ho hk
  · rename_i x t ts ho; exact aLen_sound hty hd ho hk
  · rename_i x y t t2 ho; exact aAppend_sound hty hd ho hk
  · rename_i x y ts ho; exact aMin_sound hd ho hk
  · rename_i x y ts ho; exact aMax_sound hd ho hk
  · rename_i x y z ts ho; exact aMax3_sound hd ho hk
  · rename_i x t ts ho; exact aClear_sound hty ho hk
  · rename_i x as ts ho
    split at hk
    · rename_i f first caps hx; exact aCall_sound hd ho hx hk
    · exact hk.elim
  · rename_i t ho; exact aMakeMap_sound hty hd ho hk
  · rename_i t m k ok ho; exact aLookup_sound hty hd ho hk
  · rename_i t m k v ho; exact aMapUpdate_sound hty (.inl ho) (hst2 _ _ _ _ (.inl ho)) hk
  · rename_i t m k v ho; exact aMapUpdate_sound hty (.inr ho) (hst2 _ _ _ _ (.inr ho)) hk
  · rename_i t x y ho; exact aMakeSlice_sound hty hd ho hk
  · rename_i t x ix ho; exact aIndex_sound hty hd ho hk
  · exact hk.elim

end
end Go.AM
