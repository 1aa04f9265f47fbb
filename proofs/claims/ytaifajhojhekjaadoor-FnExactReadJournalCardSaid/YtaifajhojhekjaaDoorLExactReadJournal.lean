/-
  The walk over the law FnExactReadJournal.
-/
import Derived.Test.YtaifajhojhekjaaDoorJournB
import Derived.Test.YtaifajhojhekjaaDoorHelpJ
namespace Go.Proofs.YtaifajhojhekjaaDoor
open Go.RowKit

theorem rjR_len (s : ByteArray) : (rjR s).1.length ≤ 99 := (rj_le 99 s.data.toList).2.1
set_option maxRecDepth 10000 in
set_option maxHeartbeats 1600000 in
theorem law_ExactReadJournal (s : ByteArray) (m : Int) (w : World) (hs : s.size ≤ 9223372036854775807) (hm : w.cell? ⟨1, 0, none⟩ = some (.int .i64 m)) (hna : NamesIs w) :
    Calls Tryd.prog 7 #[.string s] w fun e w' => e = .returned (.bool true) ∧ Below w.heap.size w w' := by
  have h1lt : 1 < w.heap.size := by
    rcases Nat.lt_or_ge 1 w.heap.size with h | h
    · exact h
    · simp [World.cell?, Array.getElem?_eq_none h] at hm
  by_cases hlong : 1048576 < s.size
  · have hlB : decide ((1048576 : Int) < (s.size : Int)) = true := by simp; omega
    go_enter Tryd.func7, Tryd.ntmps7
    go_wp2_with fail
    go_ret
    exact ⟨rfl, by go_grown⟩
  have hlB : decide ((1048576 : Int) < (s.size : Int)) = false := by simp; omega
  have hql := rjR_len s
  obtain ⟨q, hq⟩ : ∃ q, (rjR s).1 = q := ⟨_, rfl⟩
  obtain ⟨n, hn⟩ : ∃ n : Int, ((rjR s).2 : Int) = n := ⟨_, rfl⟩
  have KS : ∀ w, Calls Tryd.prog 28 #[.string s] w fun e w' => ∃ v, e = .returned (.tuple #[v, .int .i64 n]) ∧ JobsAt w.heap.size w'.heap.size w' v q ∧ Below w.heap.size w w' := fun w => (readJournal_spec s w (by omega)).mono fun e w' ⟨v, h1, h2, h3⟩ => ⟨v, by rw [h1, hn], by rw [hq] at h2; exact ownD_at h2 rfl h3.size, h3⟩
  have KI : ∀ w, w.cell? ⟨1, 0, none⟩ = some (.int .i64 m) → NamesIs w → Calls Tryd.prog 29 #[.string s] w fun e w' => ∃ v, e = .returned (.tuple #[v, .int .i64 n]) ∧ JobsAt w.heap.size w'.heap.size w' v q ∧ Below w.heap.size w w' := fun w a b => (readJournal_impl s m w (by omega) a b).mono fun e w' ⟨v, h1, h2, h3⟩ => ⟨v, by rw [h1, hn], by rw [hq] at h2; exact ownD_at h2 rfl h3.size, h3⟩
  have KS := hide KS
  have KI := hide KI
  rw [hq] at hql
  clear hq hn
  have hnq : (n != n) = false := by simp
  obtain ⟨n1, hn1, hn0⟩ : ∃ n : Int, 1 + 3 * (q.length : Int) = n ∧ 0 ≤ n := ⟨_, rfl, by omega⟩
  have hnn : (n1 != n1) = false := by simp
  have KE : ∀ (v v' : Value) (lo hi lo' hi' : Nat) (w : World), JobsAt lo hi w v q → JobsAt lo' hi' w v' q → Calls Tryd.prog 24 #[v, v'] w fun e w' => e = .returned (.bool true) ∧ Below w.heap.size w w' := fun v v' lo hi lo' hi' w a b => (eqMillDeedS_any v v' q q lo hi lo' hi' w a b).mono fun e w' ⟨h1, h2⟩ => ⟨by rw [h1]; simp, h2⟩
  have KK : ∀ (v : Value) (lo hi : Nat) (w : World), JobsAt lo hi w v q → Calls Tryd.prog 30 #[v, .int .i64 1] w fun e w' => e = .returned (.int .i64 n1) ∧ Other lo hi w w' ∧ ∃ ys, (ys.length = q.length ∧ ∀ (i : Nat) (_ : i < ys.length), ys[i] = mkJ (1 + 3 * (i : Int))) ∧ JobsAt lo hi w' v ys := fun v lo hi w a => (markMillDeedS_any v q lo hi 1 w a (by omega) (by omega) (by omega)).mono fun e w' ⟨h1, h2, ys, h3, h4, h5⟩ => ⟨by rw [h1, hn1], h2, ys, ⟨h3, h4⟩, h5⟩
  have KH : ∀ (v : Value) (ys : List J) (lo hi : Nat) (w : World), (ys.length = q.length ∧ ∀ (i : Nat) (_ : i < ys.length), ys[i] = mkJ (1 + 3 * (i : Int))) → JobsAt lo hi w v ys → Calls Tryd.prog 31 #[v, .int .i64 1] w fun e w' => e = .returned (.int .i64 n1) ∧ w = w' := fun v ys lo hi w a b => (heldMillDeedS_any v ys lo hi 1 w b (by omega) (by omega) (by omega) a.2).mono fun e w' ⟨h1, h2⟩ => ⟨by rw [h1, a.1, hn1], h2⟩
  have KE := hide KE
  have KK := hide KK
  have KH := hide KH
  clear hn1 hql
  go_enter Tryd.func7, Tryd.ntmps7
  go_wp2_with fail
  refine (KS.out w).mono ?_
  rintro e w1 ⟨v1, rfl, hn, hb⟩
  have VR_1 := hide hn
  have B_1 := hide hb
  have hz1 := hb.size
  clear hn hb
  go_wp2_with fail
  refine (KI.out w1 (by rw [B_1.out.cell h1lt]; exact hm) (hna.stays B_1.out)).mono ?_
  rintro e w2 ⟨v2, rfl, hn, hb⟩
  have VR_2 := hide (VR_1.out.below hb)
  have VG_2 := hide hn
  have B_2 := hide (Below.step B_1.out hb (Nat.le_refl _))
  have hz2 := hb.size
  clear hn hb
  go_wp2_with fail
  refine (KE.out _ _ _ _ _ _ w2 VG_2.out VR_2.out).mono ?_
  rintro e w3 ⟨rfl, hb⟩
  have VR_3 := hide (VR_2.out.below hb)
  have VG_3 := hide (VG_2.out.below hb)
  have B_3 := hide (Below.step B_2.out hb (Nat.le_refl _))
  have hz3 := hb.size
  clear hb
  go_wp2_with fail
  refine (KK.out _ _ _ w3 VG_3.out).mono ?_
  rintro e w4 ⟨rfl, ho, ys, hys, hn⟩
  have VR_4 := hide (VR_3.out.other ho (by omega))
  have VG_4 := hide hn
  have HY := hide hys
  have B_4 := hide (B_3.out.trans (ho.below (B := w.heap.size) (by omega) (by omega)))
  have hz4 := ho.size
  clear hn hys ho
  go_wp2_with fail
  refine (KH.out _ _ _ _ w4 HY.out VG_4.out).mono ?_
  rintro e wq ⟨rfl, rfl⟩
  go_wp2_with fail
  refine (KI.out w4 (by rw [B_4.out.cell h1lt]; exact hm) (hna.stays B_4.out)).mono ?_
  rintro e w5 ⟨v5, rfl, hn, hb⟩
  have VR_5 := hide (VR_4.out.below hb)
  have VG_5 := hide (VG_4.out.below hb)
  have VS_5 := hide hn
  have B_5 := hide (Below.step B_4.out hb (Nat.le_refl _))
  clear hn hb
  go_wp2_with fail
  refine (KE.out _ _ _ _ _ _ w5 VS_5.out VR_5.out).mono ?_
  rintro e w6 ⟨rfl, hb⟩
  have VG_6 := hide (VG_5.out.below hb)
  have B_6 := hide (Below.step B_5.out hb (Nat.le_refl _))
  clear hb
  go_wp2_with fail
  refine (KH.out _ _ _ _ w6 HY.out VG_6.out).mono ?_
  rintro e wq ⟨rfl, rfl⟩
  go_wp2_with fail
  go_ret
  exact ⟨rfl, B_6.out⟩
end Go.Proofs.YtaifajhojhekjaaDoor
