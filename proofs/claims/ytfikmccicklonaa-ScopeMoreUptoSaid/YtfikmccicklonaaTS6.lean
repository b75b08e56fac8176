/-
  DERIVED. Contracts of the functions that the law reaches, and the law itself, for every input. No conditions.
-/
import Derived.Test.YtfikmccicklonaaTS5
open Go Go.AM Go.Proofs
set_option maxRecDepth 100000
namespace TR
def hp0 (A B C : BM) : Heap := [(1000000000, .cells [.mp 1000000001, .mp 1000000002, .mp 1000000003, .c (.map none)]), (1000000001, .map .ks (eM vB A)), (1000000002, .map .ks (eM vB B)), (1000000003, .map .ks (eM vB C))]
def hp1 (A B C : BM) (m : IM) : Heap := [(1000000000, .cells [.mp 1000000001, .mp 1000000002, .mp 1000000003, .mp 11]), (1000000001, .map .ks (eM vB A)), (1000000002, .map .ks (eM vB B)), (1000000003, .map .ks (eM vB C)), (11, .map .ks (eM vI m))]
theorem exprM_spec (A B C : BM) (l : List ByteArray) (e : Ex) (hl : l.length ≤ 2097152) (he : wE e ≤ 1048640) : AMem Try.prog 50 [.ptr 1000000000 0, .p (.sl 1 (l.map eStr)), .p (eE e)] (hp0 A B C)
    (rsV (resF A B C e (l.foldl incF []))) (hp1 A B C (resF A B C e (l.foldl incF [])).2) := by
  have hv := res_spec A B C e he (l.foldl incF [])
  generalize resF A B C e (l.foldl incF []) = R at hv
  obtain ⟨⟨r1, r2⟩, r3⟩ := R
  obtain ⟨k0, n0, t0, ns0, ts0, as0, ms0, p0⟩ := e
  simp only [rsV] at hv ⊢
  refine AMem.intro (tyOf_ok Try.prog) hmix Try.func50 rfl (by rfl) (by kernel_rfl) (by show 3 ≤ _; decide) rfl ?_
  conv => whnf
  refine loopS (tyOf_ok _) hmix (by kernel_rfl) l.length [0, 5, 14, 15, 16] [1000000000, 1000000001, 1000000002, 1000000003, 11, 5] (fun k (m : IM) => [.ptr 1000000000 0, .ptr 5 0, .p (.sl 1 (l.map eStr)), .p (.i .i64 (l.map eStr).length), .p (.i .i64 (ix k))])
    (fun k m => [.cells [.mp 1000000001, .mp 1000000002, .mp 1000000003, .mp 11], .map .ks (eM vB A), .map .ks (eM vB B), .map .ks (eM vB C), .map .ks (eM vI m), .cells [.p (.i .i64 k0), .p (.i .i64 n0), .p (.s t0), .p (.sl 1 (ns0.map eStr)), .p (.sl 3 (eTs ts0)), .p (.sl 8 (eEs as0)), .p (.sl 12 (eAs ms0)), .p (.i .i64 p0)]])
    (fun k m => m = (l.take k).foldl incF []) [] ⟨rfl, rfl, rfl, rfl⟩ rfl ?_
  intro k m hk hm
  conv => whnf
  refine asplit ?_ ?_ <;> intro h1 <;> conv => whnf
  · have hk1 := ix_tt h1 (by simp) hk (by omega)
    obtain ⟨b, hb1⟩ : ∃ b, l[k]? = some b := ⟨_, List.getElem?_eq_getElem hk1⟩
    refine aidxk (x := eStr b) (by simp [hb1]) (by omega) ?_
    conv => whnf
    refine alook (mlook_I b m) ?_
    conv => whnf
    refine ⟨hk1, incF m b, ⟨by rw [incF, ← mput_eM]; rfl, rfl, rfl, rfl⟩, ?_⟩
    rw [take_snoc hb1, List.foldl_append, ← hm]; rfl
  · have hk1 := ix_ff h1 (by simp) hk (by omega)
    have hm2 : m = l.foldl incF [] := by rw [hm, hk1, List.take_length]
    subst hm2
    refine amc [1000000000, 1000000001, 1000000002, 1000000003, 11] 10000 hv ?_
    conv => whnf
    exact ⟨.inl rfl, ⟨.inl rfl, .inl rfl, .inl rfl, .inl rfl, trivial⟩, ⟨rfl, rfl⟩, ⟨rfl, rfl⟩, ⟨rfl, rfl⟩, ⟨rfl, rfl⟩, trivial⟩
/-- scope.Expr -/
def exprF (p : Pg) (l : List ByteArray) (e : Ex) : Int × Bool := (resF (setF (mkN p.datas)) (setF (caN p)) (setF (p.actors.map (·.name))) e (l.foldl incF [])).1
theorem expr_spec (p : Pg) (hp : wPg p ≤ 1048576) (l : List ByteArray) (e : Ex) (hl : l.length ≤ 2097152) (he : wE e ≤ 1048640) : APure Try.prog 31 [.p (ePg p), .p (.sl 1 (l.map eStr)), .p (eE e)]
    (.tup [.p (.i .i64 (bif (exprF p l e).2 then 11 else 0)), .p (.i .i64 (bif (exprF p l e).2 then (exprF p l e).1 else 0))]) := by
  have h1 := newRes_spec p hp
  rw [exprF]
  generalize setF (mkN p.datas) = A at *
  generalize setF (caN p) = B at *
  generalize setF (p.actors.map (·.name)) = C at *
  have h2 := exprM_spec A B C l e hl he
  generalize resF A B C e (l.foldl incF []) = R at h2
  obtain ⟨⟨r1, r2⟩, r3⟩ := R
  have h3 := told_spec r1 r2
  simp only [rsV] at h2 ⊢
  generalize (bif r2 then (11 : Int) else 0) = q1 at *
  generalize (bif r2 then (r1 : Int) else 0) = q2 at *
  clear hp
  obtain ⟨nm, ver, us, ds, ts, is, fs, acs⟩ := p
  obtain ⟨k0, n0, t0, ns0, ts0, as0, ms0, p0⟩ := e
  refine APure.intro (tyOf_ok Try.prog) hmix Try.func31 rfl (by rfl) (by kernel_rfl) (by show 3 ≤ _; decide) rfl ?_
  conv => whnf
  refine amc [] 100000 h1 ?_
  conv => whnf
  refine amc [100013, 110006, 120006, 130006] 200000 h2 ?_
  conv => whnf
  refine apc h3 ?_
  conv => whnf
  refine aneed (by kernel_rfl) ?_
  conv => whnf
  exact .inl rfl
end TR
