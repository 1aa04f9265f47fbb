/-
  A drawn mill lies in a box: what the draws leave. No walk.
-/
import Derived.Test.YtmemgbklgcjobaaGreatDoorB48
import Derived.Test.YtmemgbklgcjobaaGreatDoorRdPast
namespace Go.Proofs.YtmemgbklgcjobaaGreatDoor
open Go.RowKit

/-- A drawn mill lies in a box. -/
def MillIsAt (b Z : Nat) (w0 : World) (s p l h : Value) (m : Mi) (W : World) : Prop :=
  RowL W Z 31 (millC s p l h m) ∧ MillGot b W s p l h m ∧ Below b w0 W
theorem mia_z {b b' Z : Nat} {w0 w : World} {s p l h : Value} {us : List Value} {m : Mi} (rz : RowL w Z 31 us) (hl : us.length = 12) (G : MillGot b' w s p l h m) (B : Below b w0 w) (hbb : b ≤ b') (hz : b ≤ w0.heap.size) (h1 : b ≤ Z) :
    MillIsAt b Z w0 s p l h m (((((((((((((w).setCell ⟨Z, 0, none⟩ (s)).setCell ⟨Z, 1, none⟩ (.int .i64 m.rule.lc)).setCell ⟨Z, 2, none⟩ (.int .i64 m.rule.hc)).setCell ⟨Z, 3, none⟩ (.int .i64 m.rule.lm)).setCell ⟨Z, 4, none⟩ (.int .i64 m.rule.hm)).setCell ⟨Z, 5, none⟩ (.int .i64 m.rule.ls)).setCell ⟨Z, 6, none⟩ (.int .i64 m.rule.hs)).setCell ⟨Z, 7, none⟩ (.int .i64 m.strand)).setCell ⟨Z, 8, none⟩ (p)).setCell ⟨Z, 9, none⟩ (l)).setCell ⟨Z, 10, none⟩ (h)).setCell ⟨Z, 11, none⟩ (.int .i64 m.scrap)) := by
  have T := other12 Z w s (.int .i64 m.rule.lc) (.int .i64 m.rule.hc) (.int .i64 m.rule.lm) (.int .i64 m.rule.hm) (.int .i64 m.rule.ls) (.int .i64 m.rule.hs) (.int .i64 m.strand) p l h (.int .i64 m.scrap)
  exact ⟨row12 rz hl _ _ _ _ _ _ _ _ _ _ _ _, (G.past rz T).mono hbb, B.trans (T.below h1 (Nat.le_trans hz B.size))⟩
theorem mia_0 {b b' Z : Nat} {w0 w : World} {s p l h : Value} {m : Mi} (rz : RowL w Z 31 (millC s p l h m)) (G : MillGot b' w s p l h m) (B : Below b w0 w) (hbb : b ≤ b') : MillIsAt b Z w0 s p l h m w := ⟨rz, G.mono hbb, B⟩
/-- Deeds were drawn, and a mill lies in a box. -/
def MillDeedsAt (b Z : Nat) (w0 : World) (s p l h : Value) (m : Mi) (v : Value) (W : World) : Prop :=
  ∃ (js : List J) (g : Nat) (cap : Nat), v = .slice (some ⟨g, 0, none⟩) js.length cap ∧ js.length ≤ 100 ∧ (∀ j ∈ js, J.d j ≤ 9223372036854775807 ∧ J.g j ≤ 9223372036854775807) ∧ JobsAt b W.heap.size W v js ∧ MillIsAt b Z w0 s p l h m W
theorem mds_z {b b' Z lo hi cap : Nat} {ag : Nat} {w0 w : World} {s p l h : Value} {us : List Value} {m : Mi} {js : List J} (hj : ∀ j ∈ js, J.d j ≤ 9223372036854775807 ∧ J.g j ≤ 9223372036854775807) (h99 : js.length ≤ 100) (Hj : JobsAt lo hi w (.slice (some ⟨ag, 0, none⟩) js.length cap) js) (hd : hi ≤ Z ∨ Z + 1 ≤ lo) (hlo : b ≤ lo) (rz : RowL w Z 31 us) (hl : us.length = 12) (G : MillGot b' w s p l h m) (B : Below b w0 w) (hbb : b ≤ b') (hz : b ≤ w0.heap.size) (h1 : b ≤ Z) :
    MillDeedsAt b Z w0 s p l h m (.slice (some ⟨ag, 0, none⟩) js.length cap) (((((((((((((w).setCell ⟨Z, 0, none⟩ (s)).setCell ⟨Z, 1, none⟩ (.int .i64 m.rule.lc)).setCell ⟨Z, 2, none⟩ (.int .i64 m.rule.hc)).setCell ⟨Z, 3, none⟩ (.int .i64 m.rule.lm)).setCell ⟨Z, 4, none⟩ (.int .i64 m.rule.hm)).setCell ⟨Z, 5, none⟩ (.int .i64 m.rule.ls)).setCell ⟨Z, 6, none⟩ (.int .i64 m.rule.hs)).setCell ⟨Z, 7, none⟩ (.int .i64 m.strand)).setCell ⟨Z, 8, none⟩ (p)).setCell ⟨Z, 9, none⟩ (l)).setCell ⟨Z, 10, none⟩ (h)).setCell ⟨Z, 11, none⟩ (.int .i64 m.scrap)) := by
  have T := other12 Z w s (.int .i64 m.rule.lc) (.int .i64 m.rule.hc) (.int .i64 m.rule.lm) (.int .i64 m.rule.hm) (.int .i64 m.rule.ls) (.int .i64 m.rule.hs) (.int .i64 m.strand) p l h (.int .i64 m.scrap)
  have J2 := Hj.other T hd
  exact ⟨js, ag, cap, rfl, h99, hj, J2.mono hlo J2.lt (Nat.le_refl _), mia_z rz hl G B hbb hz h1⟩
theorem mds_0 {b b' Z lo hi cap : Nat} {ag : Nat} {w0 w : World} {s p l h : Value} {m : Mi} {js : List J} (hj : ∀ j ∈ js, J.d j ≤ 9223372036854775807 ∧ J.g j ≤ 9223372036854775807) (h99 : js.length ≤ 100) (Hj : JobsAt lo hi w (.slice (some ⟨ag, 0, none⟩) js.length cap) js) (hlo : b ≤ lo) (rz : RowL w Z 31 (millC s p l h m)) (G : MillGot b' w s p l h m) (B : Below b w0 w) (hbb : b ≤ b') :
    MillDeedsAt b Z w0 s p l h m (.slice (some ⟨ag, 0, none⟩) js.length cap) w :=
  ⟨js, ag, cap, rfl, h99, hj, Hj.mono hlo Hj.lt (Nat.le_refl _), mia_0 rz G B hbb⟩
theorem mds_w {b Z : Nat} {w0 W : World} {s p l h v : Value} {m : Mi} (H : MillDeedsAt b Z w0 s p l h m v W) : MillDeedsAt b Z w0 s p l h m v W := H
theorem own_some {w : World} {b T sz n g : Nat} {v : Value} {cs : List Value} (h : w.ownsRow b T sz v n cs) (hg : v.ownBlock = some g) : ∃ cap, v = .slice (some ⟨g, 0, none⟩) n cap := by
  rcases h.2 with ⟨rfl, -⟩ | ⟨g1, cap, cur, rfl, -⟩
  · cases hg
  · obtain rfl : g1 = g := Option.some.inj hg
    exact ⟨cap, rfl⟩
theorem mds_drew {b Z : Nat} {w0 W : World} {s p l h v : Value} {m : Mi} (H : MillDeedsAt b Z w0 s p l h m v W) : MillDeedsAt b Z w0 s p l h m v W.drew := by
  obtain ⟨js, ao, cap, e, h99, hj, HJ, hr, hG, hB⟩ := H
  exact ⟨js, ao, cap, e, h99, hj, HJ.below ((Below.refl _ _).drew), hr.drew, hG.below ((Below.refl _ _).drew), hB.drew⟩
theorem mia_drew {b Z : Nat} {w0 W : World} {s p l h : Value} {m : Mi} (H : MillIsAt b Z w0 s p l h m W) : MillIsAt b Z w0 s p l h m W.drew :=
  ⟨H.1.drew, H.2.1.below ((Below.refl _ _).drew), H.2.2.drew⟩
/-- Deeds in a new row. -/
theorem jobs_new (w : World) (xs : List J) (hl : xs.length ≤ 1000) : JobsAt w.heap.size (w.heap.size + 1) (w.alloc (.cells (flatD xs).toArray 48)) (.slice (some ⟨w.heap.size, 0, none⟩) xs.length xs.length) xs := by
  have h : (w.alloc (.cells (flatD xs).toArray 48)).ownsRow w.heap.size 48 3 (.slice (some ⟨w.heap.size, 0, none⟩) xs.length xs.length) xs.length (flatD xs) := by
    have := World.ownsRow_lit (e := 48) (size := 3) (base := w.heap.size) w (flatD xs).toArray xs.length (Nat.le_refl _) (by unfold maxLen; omega) (by simp [flatD_len])
    simpa using this
  exact (ownD_at1 h rfl).2.2
end Go.Proofs.YtmemgbklgcjobaaGreatDoor
