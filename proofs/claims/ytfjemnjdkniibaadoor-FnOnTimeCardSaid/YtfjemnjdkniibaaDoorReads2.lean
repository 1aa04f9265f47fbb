/-
  Facts of sorted orders for the laws.
-/
import Derived.Test.YtfjemnjdkniibaaDoorReads
namespace Go.Proofs.YtfjemnjdkniibaaDoor
open Go.RowKit
theorem order_pair {K : J → J → Int} (C : Cmp K fun j => jvB j = true) {js : List J} (hv : jsvB js = true) {xs : List Int} (hx : orderR K js = xs) {k : Nat} (h0 : 1 ≤ k) (hk : k < xs.length) :
    ∃ a b : Nat, xs[k - 1] = a ∧ xs[k] = b ∧ a < js.length ∧ b < js.length ∧ K (jAt js a) (jAt js b) ≤ 0 := by
  have hs := order_sorted C hv
  rw [hx] at hs
  obtain ⟨h1, h2, h3⟩ := (List.pairwise_iff_getElem.1 hs) (k - 1) k (by omega) hk (by omega)
  obtain ⟨a, ea⟩ := Int.eq_ofNat_of_zero_le h2.1
  obtain ⟨b, eb⟩ := Int.eq_ofNat_of_zero_le h3.1
  rw [ea, eb] at h1
  have := h2.2
  have := h3.2
  exact ⟨a, b, ea, eb, by omega, by omega, h1⟩
theorem order_len {K : J → J → Int} (C : Cmp K fun j => jvB j = true) {js : List J} (hv : jsvB js = true) {xs : List Int} (hx : orderR K js = xs) : xs.length = js.length ∧ okB js xs = true := by
  rw [← hx]
  exact ⟨(ord_iff.1 (order_ord C hv)).1, order_ok C hv⟩
theorem order_bad {K : J → J → Int} {js : List J} (hv : jsvB js = false) : orderR K js = [] := by simp [orderR, hv]
end Go.Proofs.YtfjemnjdkniibaaDoor
