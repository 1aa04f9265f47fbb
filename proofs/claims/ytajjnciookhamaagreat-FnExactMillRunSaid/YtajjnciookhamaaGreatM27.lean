/-
  Parts of the proof, of 4 texts: what Meth, MethB, MethS, MethA show. Conditions: each theorem states its own.
-/
import Derived.Deep.CutRange
import Derived.Deep.RegionHeld
import Derived.Test.YtajjnciookhamaaGreatM20
import Derived.Test.YtajjnciookhamaaGreatM24
import Derived.Test.YtajjnciookhamaaGreatM14
import Derived.Test.YtajjnciookhamaaGreatM26
import Derived.Test.YtajjnciookhamaaGreatM16
namespace Go.Proofs.YtajjnciookhamaaGreat
open Go.RowKit
/-- The cells of a mill. -/
def millC (s p l h : Value) (m : Mi) : List Value :=
  [s, .int .i64 m.rule.lc, .int .i64 m.rule.hc, .int .i64 m.rule.lm, .int .i64 m.rule.hm, .int .i64 m.rule.ls, .int .i64 m.rule.hs, .int .i64 m.strand, p, l, h, .int .i64 m.scrap]
/-- None of the slices lies in a block. -/
def NotIn (B : Nat) (s p l h : Value) : Prop := s.ownBlock ≠ some B ∧ p.ownBlock ≠ some B ∧ l.ownBlock ≠ some B ∧ h.ownBlock ≠ some B
/-- A mill of the call's own in a box. -/
structure MillBox (base B : Nat) (w : World) (s p l h : Value) (m : Mi) : Prop where
  row : RowL w B 39 (millC s p l h m)
  got : MillGot base w s p l h m
  off : NotIn B s p l h
  hB : base ≤ B
theorem MillBox.below {base B : Nat} {w w' : World} {s p l h : Value} {m : Mi} (H : MillBox base B w s p l h m) (k : Below w.heap.size w w') : MillBox base B w' s p l h m :=
  ⟨H.row.below k H.row.lt, H.got.below k, H.off, H.hB⟩
/-- What a method leaves. -/
def Meth (base B : Nat) (o : Option Mi) (w : World) (e : Ending) (w' : World) : Prop :=
  e = .returned (.bool o.isSome) ∧ Below base w w' ∧ ∀ x, o = some x → ∃ s p l h, RowL w' B 39 (millC s p l h x) ∧ MillGot base w' s p l h x
theorem Meth.no {base B : Nat} {w w' : World} (h : Below base w w') : Meth base B none w (.returned (.bool false)) w' := ⟨rfl, h, fun _ e => by cases e⟩
theorem notIn_new {B B' : Nat} {w' : World} {s p l h l' h' : Value} {xs ys : List Int} (o : NotIn B s p l h) (hB : B < B') (q : PileOwn B' w' l' h' xs ys) : NotIn B s p l' h' :=
  ⟨o.1, o.2.1, fun e => by have := (q.lo.lt B e).1; omega, fun e => by have := (q.ho.lt B e).1; omega⟩
theorem notIn_store {B B' n : Nat} {w' : World} {s s' p l h : Value} {T sz : Nat} {cs : List Value} (o : NotIn B s p l h) (hB : B < B') (q : OwnE B' T sz w' s' n cs) : NotIn B s' p l h :=
  ⟨fun e => by have := (q.lt B e).1; omega, o.2⟩
/-- A cell of the box is written. -/
theorem box_set {base B j T : Nat} {w : World} {s p l h : Value} {m : Mi} {vs : List Value} (r : RowL w B T vs) (H : MillGot base w s p l h m) (o : NotIn B s p l h) (hb : base ≤ B) (hj : j < vs.length) (x : Value) :
    RowL (w.setCell ⟨B, j, none⟩ x) B T (vs.set j x) ∧ MillGot base (w.setCell ⟨B, j, none⟩ x) s p l h m ∧ Below base w (w.setCell ⟨B, j, none⟩ x) := by
  have k : Other B (B + 1) w (w.setCell ⟨B, j, none⟩ x) := (Other.refl _ _ _).setCell (p := ⟨B, j, none⟩) (Nat.le_refl _) (Nat.lt_succ_self _) _
  have hd : ∀ {v : Value}, v.ownBlock ≠ some B → ∀ g, v.ownBlock = some g → g < B ∨ B + 1 ≤ g := fun hne g hg => by
    rcases Nat.lt_trichotomy g B with h1 | h1 | h1
    · exact .inl h1
    · exact absurd (h1 ▸ hg) hne
    · exact .inr h1
  refine ⟨r.set j x hj, ⟨Nat.le_trans H.hb k.size, H.so.other k (hd o.1), H.po.other k (hd o.2.1), H.lo.other k (hd o.2.2.1), H.ho.other k (hd o.2.2.2), H.sp, H.sl, H.sh, H.pl, H.ph, H.lh⟩, k.below (B := base) hb H.hb⟩
theorem flatP_setS : ∀ (xs : List Pc) (k : Nat) (_ : k < xs.length) (st : Int), (flatP xs).set (k * 2 + 1) (.int .i64 st) = flatP (setS xs ((k : Int) + 1) st)
  | x :: xs, 0, _, st => rfl
  | x :: xs, k + 1, h, st => by
    have ih := flatP_setS xs k (by simpa using h) st
    have e : flatP (x :: xs) = pcL x ++ flatP xs := rfl
    have i1 : ((k : Int) + 1 - 1).toNat = k := by omega
    have i2 : (((k + 1 : Nat) : Int) + 1 - 1).toNat = k + 1 := by omega
    have e2 : flatP (setS (x :: xs) (((k + 1 : Nat) : Int) + 1) st) = pcL x ++ flatP (setS xs ((k : Int) + 1) st) := by
      unfold setS
      rw [i1, i2]
      rfl
    rw [e, e2, ← ih, List.set_append_right _ _ (by simp [pcL]; omega)]
    have : (k + 1) * 2 + 1 - (pcL x).length = k * 2 + 1 := by simp [pcL]; omega
    rw [this]
/-- The state of a piece is written. -/
theorem got_state {base : Nat} {w : World} {s p l h : Value} {m : Mi} (H : MillGot base w s p l h m) {k : Nat} (hk : k < m.pieces.length) {g : Nat} (hg : p.ownBlock = some g) (st : Int) :
    MillGot base (w.setCell ⟨g, k * 2 + 1, none⟩ (.int .i64 st)) s p l h { m with pieces := setS m.pieces ((k : Int) + 1) st } ∧ Below base w (w.setCell ⟨g, k * 2 + 1, none⟩ (.int .i64 st)) := by
  obtain ⟨h1, h2⟩ := H.po.put (by omega) hg (j := k * 2 + 1) (.int .i64 st)
  have hlt := H.po.lt g hg
  have hd : ∀ {v : Value}, Apart v p → ∀ k, v.ownBlock = some k → k < g ∨ g + 1 ≤ k := fun ha k hk => by
    rcases Nat.lt_trichotomy k g with h1 | h1 | h1
    · exact .inl h1
    · exact absurd hg (ha g (h1 ▸ hk))
    · exact .inr h1
  rw [flatP_setS _ _ hk] at h1
  refine ⟨⟨Nat.le_trans H.hb h2.size, H.so.other h2 (hd H.sp), ?_, H.lo.other h2 (hd H.pl.symm), H.ho.other h2 (hd H.ph.symm), H.sp, H.sl, H.sh, H.pl, H.ph, H.lh⟩, h2.below (B := base) hlt.1 H.hb⟩
  show OwnE base _ 2 _ p (setS m.pieces ((k : Int) + 1) st).length _
  rw [setS_len]
  exact h1
/-- The block of pieces. -/
theorem got_block {base : Nat} {w : World} {s p l h : Value} {m : Mi} (H : MillGot base w s p l h m) (hk : 0 < m.pieces.length) : ∃ g cap, p = .slice (some ⟨g, 0, none⟩) m.pieces.length cap ∧ base ≤ g ∧ g < w.heap.size ∧
    ∀ k, k < m.pieces.length → (w.cell? ⟨g, k * 2 + 1, none⟩ = some (.int .i64 (m.pieces.getD k pc0).s) ∧ w.frozen? ⟨g, k * 2 + 1, none⟩ = false) := by
  obtain ⟨a, z, h1, h2, h3, h4, h5, h6⟩ := ownE_P H.po rfl H.hb
  obtain ⟨ao, cap, rfl, q1, q2, q3, q4⟩ := h4
  obtain ⟨b, o, rfl, b1, b2, hc⟩ := q4 hk
  rcases H.po with hp | ⟨g, -, -, -, e, -⟩
  · rcases hp.2 with ⟨e, -⟩ | ⟨g, cap', cur, e, -⟩
    · cases e
    · cases e
      refine ⟨b, cap, rfl, by omega, by omega, fun k hk => ?_⟩
      have := hc k hk
      have hg : m.pieces.getD k pc0 = m.pieces[k] := by simp [hk]
      rw [hg]
      have e0 : 0 + k * 2 + 1 = k * 2 + 1 := by omega
      rw [← e0]
      exact ⟨this.1.2, this.2.2⟩
  · omega
end Go.Proofs.YtajjnciookhamaaGreat
namespace Go.Proofs.YtajjnciookhamaaGreat
open Go.RowKit
/-- A box that holds a pile of the call's own. -/
def BoxGot (base : Nat) (w : World) (q : List Int × List Int) (bx : Value) : Prop := ∃ G l h, bx = .pointer (some ⟨G, 0, none⟩) ∧ base ≤ G ∧ RowL w G 37 [l, h] ∧ PileOwn base w l h q.1 q.2
theorem box_new {base b : Nat} {w : World} {l h : Value} {q : List Int × List Int} (own : PileOwn b w l h q.1 q.2) (hb : base ≤ b) (hz : base ≤ w.heap.size) :
    BoxGot base (w.alloc (.cells #[l, h] 37)) q (.pointer (some ⟨w.heap.size, 0, none⟩)) :=
  ⟨_, _, _, rfl, hz, RowL.new _ _ _, (own.below ((Below.refl _ _).alloc (Nat.le_refl _) _) (Nat.le_refl _)).mono hb⟩
theorem box_old {base b G : Nat} {w : World} {x y l h : Value} {q : List Int × List Int} (r : RowL w G 37 [x, y]) (own : PileOwn b w l h q.1 q.2) (hG : base ≤ G) (hb : G < b) :
    BoxGot base ((w.setCell ⟨G, 0, none⟩ l).setCell ⟨G, 1, none⟩ h) q (.pointer (some ⟨G, 0, none⟩)) := by
  have k : Other G (G + 1) w ((w.setCell ⟨G, 0, none⟩ l).setCell ⟨G, 1, none⟩ h) :=
    ((Other.refl _ _ _).setCell (p := ⟨G, 0, none⟩) (Nat.le_refl _) (Nat.lt_succ_self _) _).setCell (p := ⟨G, 1, none⟩) (Nat.le_refl _) (Nat.lt_succ_self _) _
  exact ⟨_, _, _, rfl, hG, (r.set 0 l (by simp)).set 1 h (by simp), (own.other k (by omega)).mono (by omega)⟩
/-- What a region that reads a pile in a box keeps: the box's two cells, and all old memory. -/
theorem held_call {w W W' : World} {B : Nat} {l h : Value} (hlt : B < w.heap.size) (k : Below W.heap.size W W') (H : (W.cell? ⟨B, 9, none⟩ = some l ∧ W.cell? ⟨B, 10, none⟩ = some h) ∧ Below w.heap.size w W) : (W'.cell? ⟨B, 9, none⟩ = some l ∧ W'.cell? ⟨B, 10, none⟩ = some h) ∧ Below w.heap.size w W' := by
  have hz := H.2.size
  exact ⟨⟨(k.cell (p := ⟨B, 9, none⟩) (show B < W.heap.size by omega)).trans H.1.1, (k.cell (p := ⟨B, 10, none⟩) (show B < W.heap.size by omega)).trans H.1.2⟩, H.2.trans (k.mono hz)⟩
theorem held_alloc {w W : World} {B : Nat} {l h : Value} {o : Obj} (hlt : B < w.heap.size) (H : (W.cell? ⟨B, 9, none⟩ = some l ∧ W.cell? ⟨B, 10, none⟩ = some h) ∧ Below w.heap.size w W) : ((W.alloc o).cell? ⟨B, 9, none⟩ = some l ∧ (W.alloc o).cell? ⟨B, 10, none⟩ = some h) ∧ Below w.heap.size w (W.alloc o) :=
  held_call hlt ((Below.refl _ _).alloc (Nat.le_refl _) o) H
theorem held_store {w W : World} {B G : Nat} {l h u v : Value} (hlt : B < w.heap.size) (hG : w.heap.size ≤ G) (H : (W.cell? ⟨B, 9, none⟩ = some l ∧ W.cell? ⟨B, 10, none⟩ = some h) ∧ Below w.heap.size w W) : (((W.setCell ⟨G, 0, none⟩ u).setCell ⟨G, 1, none⟩ v).cell? ⟨B, 9, none⟩ = some l ∧ ((W.setCell ⟨G, 0, none⟩ u).setCell ⟨G, 1, none⟩ v).cell? ⟨B, 10, none⟩ = some h) ∧ Below w.heap.size w ((W.setCell ⟨G, 0, none⟩ u).setCell ⟨G, 1, none⟩ v) := by
  have k : Below w.heap.size W ((W.setCell ⟨G, 0, none⟩ u).setCell ⟨G, 1, none⟩ v) := ((Below.refl _ _).setCell (p := ⟨G, 0, none⟩) hG _).setCell (p := ⟨G, 1, none⟩) hG _
  exact ⟨⟨(k.cell (p := ⟨B, 9, none⟩) hlt).trans H.1.1, (k.cell (p := ⟨B, 10, none⟩) hlt).trans H.1.2⟩, H.2.trans k⟩
theorem liftD_no1 {m : Mi} {a b : Int} (h : (decide (0 ≤ a) && decide (0 ≤ b)) = false) : liftD m a b = none := by simp [liftD, h]
theorem liftD_no2 {m : Mi} {a b : Int} (h : (liftR m.low m.high (spotTop a) (spotPlace a) (spotTop b) (spotPlace b)).2 = false) : liftD m a b = none := by simp [liftD, h]
theorem liftD_yes {m : Mi} {a b : Int} {q : List Int × List Int} (h1 : 0 ≤ a) (h2 : 0 ≤ b) (h : liftR m.low m.high (spotTop a) (spotPlace a) (spotTop b) (spotPlace b) = (q, true)) : liftD m a b = some { m with low := q.1, high := q.2 } := by simp [liftD, h, h1, h2]
set_option linter.unusedSimpArgs false in
set_option maxRecDepth 10000 in
set_option maxHeartbeats 1600000 in
theorem lift_meth {base B : Nat} {w : World} {s p l h : Value} {m : Mi} (a b : Int) (H : MillBox base B w s p l h m) (ha : a ≤ 9223372036854775807) (hb : b ≤ 9223372036854775807) :
    Calls Tryz.prog 41 #[.pointer (some ⟨B, 0, none⟩), .int .i64 a, .int .i64 b] w (Meth base B (liftD m a b) w) := by
  by_cases ha0 : 0 ≤ a
  · by_cases hb0 : 0 ≤ b
    · have HH := hide H
      have hr := H.row
      have hlt := hr.lt
      have hbz := H.got.hb
      have HL := hide (H.got.all.low)
      have HG := hide (H.got.all.high)
      have c9 : w.cell? ⟨B, 9, none⟩ = some l := hr.cell 9 (by simp [millC])
      have c10 : w.cell? ⟨B, 10, none⟩ = some h := hr.cell 10 (by simp [millC])
      obtain ⟨⟨q, r⟩, hQ⟩ : ∃ Q, liftR m.low m.high (spotTop a) (spotPlace a) (spotTop b) (spotPlace b) = Q := ⟨_, rfl⟩
      have HQ := hide hQ
      have HA := hide (fun W => spotN_impl a W ha0 ha)
      have HBB := hide (fun W => spotN_impl b W hb0 hb)
      have hlf := fun (W : World) (k : Below w.heap.size w W) => lift_impl l h m.low m.high (spotTop a) (spotPlace a) (spotTop b) (spotPlace b) W ((HL.out.below k).mono (Nat.le_refl _) k.size (Nat.le_refl _)) ((HG.out.below k).mono (Nat.le_refl _) k.size (Nat.le_refl _))
      rw [hQ] at hlf
      unfold pileV at hlf
      have HLF := hide hlf
      have hna : ¬ a < 0 := by omega
      have hnb : ¬ b < 0 := by omega
      obtain ⟨ta, hta⟩ : ∃ t, spotTop a = t := ⟨_, rfl⟩
      obtain ⟨pa, hpa⟩ : ∃ t, spotPlace a = t := ⟨_, rfl⟩
      obtain ⟨tb, htb⟩ : ∃ t, spotTop b = t := ⟨_, rfl⟩
      obtain ⟨pb, hpb⟩ : ∃ t, spotPlace b = t := ⟨_, rfl⟩
      rw [hta, hpa] at HA HLF
      rw [htb, hpb] at HBB HLF
      clear hQ hlf hta hpa htb hpb hr H
      go_enter Tryz.func41, Tryz.ntmps41
      go_wp2_with fail
      have hI : w.drew.cell? ⟨B, 9, none⟩ = some l ∧ w.drew.cell? ⟨B, 10, none⟩ = some h := ⟨c9, c10⟩
      have hK : Below w.heap.size w w.drew := (Below.refl _ _).drew
      go_cut [7, 8] from 15 to 27 (fun bx ok wr => BoxGot w.heap.size wr q bx ∧ ok = .bool r ∧ Below w.heap.size w wr)
      case first =>
        go_region_held (fun W => (W.cell? ⟨B, 9, none⟩ = some l ∧ W.cell? ⟨B, 10, none⟩ = some h) ∧ Below w.heap.size w W) (first | exact ⟨hI, hK⟩ | assumption | exact held_alloc hlt (by assumption) | exact held_store hlt (by first | exact Nat.le_refl _ | omega) (by assumption) | (trace_state; fail)) (first
          | (go_at_call 88; (with_reducible refine (HA.out _).mono ?_); rintro e w5 ⟨rfl, hb5⟩; have hS5 := held_call hlt hb5 (by assumption); have hz5 := hS5.2.size; obtain ⟨hc5, hf5⟩ := bcell hb5; have hzz5 := hb5.size; (try simp at hzz5); (try have hx50 : w.heap.size < w5.heap.size := by omega); (try have hx51 : w6.heap.size < w5.heap.size := by omega))
          | (go_at_call 88; (with_reducible refine (HBB.out _).mono ?_); rintro e w6 ⟨rfl, hb6⟩; have hS6 := held_call hlt hb6 (by assumption); have hz6 := hS6.2.size; obtain ⟨hc6, hf6⟩ := bcell hb6; have hzz6 := hb6.size; (try simp at hzz6); (try have hx60 : w.heap.size < w6.heap.size := by omega); (try have hx61 : w5.heap.size < w6.heap.size := by omega))
          | (go_at_call 89; (with_reducible refine (HLF.out _ (And.right (by assumption))).mono ?_); rintro e w7 ⟨lx, hx, rfl, own, hb7⟩; have hS7 := held_call hlt hb7 (by assumption); have hz7 := hS7.2.size; obtain ⟨hc7, hf7⟩ := bcell hb7; have hzz7 := hb7.size; (try simp at hzz7); (try have hx70 : w.heap.size < w7.heap.size := by omega); (try have hx71 : w5.heap.size < w7.heap.size := by omega); (try have hx72 : w6.heap.size < w7.heap.size := by omega); obtain ⟨alx, clx, hlx, -, -⟩ := own.lo.form; obtain ⟨ahx, chx, hhx, -, -⟩ := own.ho.form; subst hlx hhx; simp only [pileV]))
        all_goals
          have hwd : w.drew.heap.size = w.heap.size := rfl
          clear hna hnb
          go_wp2_with fail
          go_meet
        · exact ⟨box_new (base := w.heap.size) own (by omega) (by omega), rfl, And.right (by assumption)⟩
        · exact ⟨box_old ((RowL.new w6 _ _).below hb7 (by simp)) own (by omega) (by simp), rfl, And.right (by assumption)⟩
        · exact ⟨box_old (((RowL.new w5 _ _).below hb6 (by simp)).below hb7 (by omega)) own (by omega) (by omega), rfl, And.right (by assumption)⟩
        · exact ⟨box_old ((((RowL.new w.drew _ _).below hb5 (by simp)).below hb6 (by omega)).below hb7 (by omega)) own (by omega) (by omega), rfl, And.right (by assumption)⟩
      obtain ⟨⟨G, lx, hx, rfl, hG, hrow, hown⟩, rfl, hbw⟩ := hcut
      have HR := hide hrow
      have HO := hide hown
      have HBW := hide hbw
      have hGz := hrow.lt
      have g0 : wc.cell? ⟨G, 0, none⟩ = some lx := hrow.cell 0 (by simp)
      have g1 : wc.cell? ⟨G, 1, none⟩ = some hx := hrow.cell 1 (by simp)
      have R_c := HH.out.row.below hbw hlt
      have d9 : wc.cell? ⟨B, 9, none⟩ = some l := R_c.cell 9 (by simp [millC])
      have d10 : wc.cell? ⟨B, 10, none⟩ = some h := R_c.cell 10 (by simp [millC])
      have f9 := R_c.frozen 9
      have f10 := R_c.frozen 10
      have hltc := R_c.lt
      have hRc := hide R_c
      obtain ⟨alx, clx, rfl, -, -⟩ := hown.lo.form
      obtain ⟨ahx, chx, rfl, -, -⟩ := hown.ho.form
      clear hrow hown hbw R_c hI hK c9 c10
      cases r with
      | false =>
        have HN := hide (liftD_no2 (m := m) (a := a) (b := b) (by rw [HQ.out]))
        go_wp2_with fail
        go_ret
        rw [HN.out]
        exact Meth.no (HBW.out.mono hbz)
      | true =>
        have HY := hide (liftD_yes (m := m) ha0 hb0 HQ.out)
        go_wp2_with fail
        go_ret
        rw [HY.out]
        have G_2 := HH.out.got.yard HBW.out (Nat.le_refl _) HO.out
        have O_2 := notIn_new HH.out.off hlt HO.out
        obtain ⟨r1, k1, b1⟩ := box_set hRc.out G_2 O_2 HH.out.hB (j := 9) (by simp [millC]) (.slice alx q.1.length clx)
        obtain ⟨r2, k2, b2⟩ := box_set r1 k1 O_2 HH.out.hB (j := 10) (by simp [millC]) (.slice ahx q.2.length chx)
        refine ⟨rfl, ((HBW.out.mono hbz).trans b1).trans b2, fun x hx => ?_⟩
        obtain rfl := Option.some.inj hx
        exact ⟨_, _, _, _, r2, k2⟩
    · have hN := hide (liftD_no1 (m := m) (a := a) (b := b) (by simp [hb0]))
      have hna : ¬ a < 0 := by omega
      have hnb : b < 0 := by omega
      have hbz := H.got.hb
      go_enter Tryz.func41, Tryz.ntmps41
      go_wp2_with fail
      go_ret
      rw [hN.out]
      exact Meth.no (Below.refl _ _)
  · have hN := hide (liftD_no1 (m := m) (a := a) (b := b) (by simp [ha0]))
    have hna : a < 0 := by omega
    have hbz := H.got.hb
    go_enter Tryz.func41, Tryz.ntmps41
    go_wp2_with fail
    go_ret
    rw [hN.out]
    exact Meth.no (Below.refl _ _)
end Go.Proofs.YtajjnciookhamaaGreat
namespace Go.Proofs.YtajjnciookhamaaGreat
open Go.RowKit
theorem shipD_no1 {m : Mi} {id : Int} (h : findR m.low m.high id = none) : shipD m id = none := by simp [shipD, h]
theorem shipD_no2 {m : Mi} {id p : Int} {t : Bool} {q : List Int × List Int} (h : findR m.low m.high id = some (t, p)) (h2 : takeR m.low m.high t p = (q, 0)) : shipD m id = none := by simp [shipD, h, h2]
theorem shipD_yes {m : Mi} {id p x : Int} {t : Bool} {q : List Int × List Int} (h : findR m.low m.high id = some (t, p)) (h2 : takeR m.low m.high t p = (q, x)) (hx : x ≠ 0) : shipD m id = some { m with low := q.1, high := q.2, pieces := setS m.pieces id 2 } := by simp [shipD, h, h2, hx]
theorem held2_call {w W W' : World} {B Z : Nat} {l h : Value} {t : Bool} {p : Int} (hlt : B < w.heap.size) (hlz : Z < w.heap.size) (k : Below w.heap.size W W') (H : ((W.cell? ⟨B, 9, none⟩ = some l ∧ W.cell? ⟨B, 10, none⟩ = some h) ∧ (W.cell? ⟨Z, 0, none⟩ = some (.bool t) ∧ W.cell? ⟨Z, 1, none⟩ = some (.int .i64 p))) ∧ Below w.heap.size w W) :
    ((W'.cell? ⟨B, 9, none⟩ = some l ∧ W'.cell? ⟨B, 10, none⟩ = some h) ∧ (W'.cell? ⟨Z, 0, none⟩ = some (.bool t) ∧ W'.cell? ⟨Z, 1, none⟩ = some (.int .i64 p))) ∧ Below w.heap.size w W' :=
  ⟨⟨⟨(k.cell (p := ⟨B, 9, none⟩) hlt).trans H.1.1.1, (k.cell (p := ⟨B, 10, none⟩) hlt).trans H.1.1.2⟩, (k.cell (p := ⟨Z, 0, none⟩) hlz).trans H.1.2.1, (k.cell (p := ⟨Z, 1, none⟩) hlz).trans H.1.2.2⟩, H.2.trans k⟩
theorem held2_alloc {w W : World} {B Z : Nat} {l h : Value} {t : Bool} {p : Int} {o : Obj} (hlt : B < w.heap.size) (hlz : Z < w.heap.size) (H : ((W.cell? ⟨B, 9, none⟩ = some l ∧ W.cell? ⟨B, 10, none⟩ = some h) ∧ (W.cell? ⟨Z, 0, none⟩ = some (.bool t) ∧ W.cell? ⟨Z, 1, none⟩ = some (.int .i64 p))) ∧ Below w.heap.size w W) :
    (((W.alloc o).cell? ⟨B, 9, none⟩ = some l ∧ (W.alloc o).cell? ⟨B, 10, none⟩ = some h) ∧ ((W.alloc o).cell? ⟨Z, 0, none⟩ = some (.bool t) ∧ (W.alloc o).cell? ⟨Z, 1, none⟩ = some (.int .i64 p))) ∧ Below w.heap.size w (W.alloc o) :=
  held2_call hlt hlz ((Below.refl _ _).alloc H.2.size o) H
theorem held2_store {w W : World} {B Z G : Nat} {l h u v : Value} {t : Bool} {p : Int} (hlt : B < w.heap.size) (hlz : Z < w.heap.size) (hG : w.heap.size ≤ G) (H : ((W.cell? ⟨B, 9, none⟩ = some l ∧ W.cell? ⟨B, 10, none⟩ = some h) ∧ (W.cell? ⟨Z, 0, none⟩ = some (.bool t) ∧ W.cell? ⟨Z, 1, none⟩ = some (.int .i64 p))) ∧ Below w.heap.size w W) :
    ((((W.setCell ⟨G, 0, none⟩ u).setCell ⟨G, 1, none⟩ v).cell? ⟨B, 9, none⟩ = some l ∧ ((W.setCell ⟨G, 0, none⟩ u).setCell ⟨G, 1, none⟩ v).cell? ⟨B, 10, none⟩ = some h) ∧ (((W.setCell ⟨G, 0, none⟩ u).setCell ⟨G, 1, none⟩ v).cell? ⟨Z, 0, none⟩ = some (.bool t) ∧ ((W.setCell ⟨G, 0, none⟩ u).setCell ⟨G, 1, none⟩ v).cell? ⟨Z, 1, none⟩ = some (.int .i64 p))) ∧ Below w.heap.size w ((W.setCell ⟨G, 0, none⟩ u).setCell ⟨G, 1, none⟩ v) :=
  held2_call hlt hlz (((Below.refl _ _).setCell (p := ⟨G, 0, none⟩) hG _).setCell (p := ⟨G, 1, none⟩) hG _) H
set_option linter.unusedSimpArgs false in
set_option maxRecDepth 10000 in
set_option maxHeartbeats 1600000 in
theorem ship_meth {base B : Nat} {w : World} {s p l h : Value} {m : Mi} (id : Int) (H : MillBox base B w s p l h m) (hm : MillV m) :
    Calls Tryz.prog 42 #[.pointer (some ⟨B, 0, none⟩), .int .i64 id] w (Meth base B (shipD m id) w) := by
  have HH := hide H
  have hr := H.row
  have hlt := hr.lt
  have hbz := H.got.hb
  have hpl := hm.len
  have HM := hide hm
  have HL := hide (H.got.all.low)
  have HG := hide (H.got.all.high)
  have c9 : w.cell? ⟨B, 9, none⟩ = some l := hr.cell 9 (by simp [millC])
  have c10 : w.cell? ⟨B, 10, none⟩ = some h := hr.cell 10 (by simp [millC])
  have hfind := find_impl l h m.low m.high id w HL.out HG.out
  have hlf := fun (t : Bool) (pl : Int) (W : World) (kk : Below w.heap.size w W) => takeP_impl l h m.low m.high t pl W ((HL.out.below kk).mono (Nat.le_refl _) kk.size (Nat.le_refl _)) ((HG.out.below kk).mono (Nat.le_refl _) kk.size (Nat.le_refl _))
  unfold pileV at hlf hfind
  have HLF := hide hlf
  clear hr H hlf
  cases hf : findR m.low m.high id with
  | none =>
    have hN := hide (shipD_no1 hf)
    rw [hf] at hfind
    unfold findV at hfind
    clear hf
    go_enter Tryz.func42, Tryz.ntmps42
    go_wp2_with fail
    refine hfind.mono ?_
    rintro e w1 ⟨rfl, hb⟩
    have HB := hide hb
    clear hb hfind
    go_wp2_with fail
    go_ret
    rw [hN.out]
    exact Meth.no ((HB.out.mono hbz).trans (((Below.refl _ _).alloc (Nat.le_trans hbz HB.out.size) _)))
  | some tp =>
    obtain ⟨t, pl⟩ := tp
    have HF := hide hf
    rw [hf] at hfind
    unfold findV at hfind
    obtain ⟨⟨q, x⟩, hQ⟩ : ∃ Q, takeR m.low m.high t pl = Q := ⟨_, rfl⟩
    have HQ := hide hQ
    have hlt2 := HLF.out t pl
    rw [hQ] at hlt2
    have HLT := hide hlt2
    clear hf hQ hlt2
    go_enter Tryz.func42, Tryz.ntmps42
    go_wp2_with fail
    refine hfind.mono ?_
    rintro e w1 ⟨rfl, hb⟩
    have HB := hide hb
    have hz1 := hb.size
    clear hb hfind
    go_wp2_with fail
    obtain ⟨wz, hwz⟩ : ∃ wz, wz = w1.alloc (.cells #[.bool t, .int .i64 pl] 68) := ⟨_, rfl⟩
    rw [← hwz]
    have RZ : RowL wz w1.heap.size 68 [.bool t, .int .i64 pl] := by rw [hwz]; exact RowL.new _ _ _
    have HBZ := hide (show Below w.heap.size w wz by rw [hwz]; exact HB.out.alloc hz1 _)
    have hzz := HBZ.out.size
    have hlz := RZ.lt
    have hlB : B < wz.heap.size := by omega
    obtain ⟨Z, hZ⟩ : ∃ Z, w1.heap.size = Z := ⟨_, rfl⟩
    rw [hZ] at RZ hlz ⊢
    have R_z := HH.out.row.below HBZ.out hlt
    have z9 : wz.cell? ⟨B, 9, none⟩ = some l := R_z.cell 9 (by simp [millC])
    have z10 : wz.cell? ⟨B, 10, none⟩ = some h := R_z.cell 10 (by simp [millC])
    have z0 : wz.cell? ⟨Z, 0, none⟩ = some (.bool t) := RZ.cell 0 (by simp)
    have z1 : wz.cell? ⟨Z, 1, none⟩ = some (.int .i64 pl) := RZ.cell 1 (by simp)
    clear hwz hZ RZ R_z c9 c10
    go_wp2_with fail
    have hI : (wz.drew.cell? ⟨B, 9, none⟩ = some l ∧ wz.drew.cell? ⟨B, 10, none⟩ = some h) ∧ (wz.drew.cell? ⟨Z, 0, none⟩ = some (.bool t) ∧ wz.drew.cell? ⟨Z, 1, none⟩ = some (.int .i64 pl)) := ⟨⟨z9, z10⟩, z0, z1⟩
    have hK : Below wz.heap.size wz wz.drew := (Below.refl _ _).drew
    go_cut [7, 8] from 20 to 28 (fun bx ok wr => BoxGot wz.heap.size wr q bx ∧ ok = .int .i64 x ∧ Below wz.heap.size wz wr)
    case first =>
      go_region_held (fun W => ((W.cell? ⟨B, 9, none⟩ = some l ∧ W.cell? ⟨B, 10, none⟩ = some h) ∧ (W.cell? ⟨Z, 0, none⟩ = some (.bool t) ∧ W.cell? ⟨Z, 1, none⟩ = some (.int .i64 pl))) ∧ Below wz.heap.size wz W) (first | exact ⟨hI, hK⟩ | assumption | exact held2_alloc hlB hlz (by assumption) | exact held2_store hlB hlz (by first | exact Nat.le_refl _ | omega) (by assumption) | (trace_state; fail)) (first
        | (go_at_call 91; (with_reducible refine (HLT.out _ (HBZ.out.trans ((And.right (by assumption : _ ∧ Below wz.heap.size wz _)).mono hzz))).mono ?_); rintro e w7 ⟨lx, hx, rfl, own, hb7⟩; have hS7 := held2_call hlB hlz (hb7.mono (by first | exact Nat.le_refl _ | (simp; done))) (by assumption); have hz7 := hS7.2.size; obtain ⟨hc7, hf7⟩ := bcell hb7; have hzz7 := hb7.size; (try simp at hzz7); obtain ⟨alx, clx, hlx, -, -⟩ := own.lo.form; obtain ⟨ahx, chx, hhx, -, -⟩ := own.ho.form; subst hlx hhx; simp only [pileV]))
      all_goals
        have hwd : wz.drew.heap.size = wz.heap.size := rfl
        go_wp2_with fail
        go_meet
      · exact ⟨box_new (base := wz.heap.size) own (by omega) (by omega), rfl, And.right (by assumption)⟩
      · exact ⟨box_old ((RowL.new wz.drew _ _).below hb7 (by simp)) own (by omega) (by simp), rfl, And.right (by assumption)⟩
    obtain ⟨⟨G, lx, hx, rfl, hG, hrow, hown⟩, rfl, hbw⟩ := hcut
    have HR := hide hrow
    have HO := hide hown
    have HBW := hide (HBZ.out.trans (hbw.mono hzz))
    have hGz := hrow.lt
    have g0 : wc.cell? ⟨G, 0, none⟩ = some lx := hrow.cell 0 (by simp)
    have g1 : wc.cell? ⟨G, 1, none⟩ = some hx := hrow.cell 1 (by simp)
    have R_c := HH.out.row.below HBW.out hlt
    have f9 := R_c.frozen 9
    have f10 := R_c.frozen 10
    have d9 : wc.cell? ⟨B, 9, none⟩ = some l := R_c.cell 9 (by simp [millC])
    have d10 : wc.cell? ⟨B, 10, none⟩ = some h := R_c.cell 10 (by simp [millC])
    have d8 : wc.cell? ⟨B, 8, none⟩ = some p := R_c.cell 8 (by simp [millC])
    have hltc := R_c.lt
    have hRc := hide R_c
    obtain ⟨alx, clx, rfl, -, -⟩ := hown.lo.form
    obtain ⟨ahx, chx, rfl, -, -⟩ := hown.ho.form
    have GC := HH.out.got.below HBW.out
    clear hrow hown hbw R_c hI hK z9 z10 z0 z1
    by_cases hx0 : x = 0
    · subst hx0
      have hN := hide (shipD_no2 (m := m) (id := id) HF.out HQ.out)
      go_wp2_with fail
      go_ret
      rw [hN.out]
      exact Meth.no (HBW.out.mono hbz)
    · have hxB : (x == 0) = false := by simp [hx0]
      have HY := hide (shipD_yes (m := m) HF.out HQ.out hx0)
      obtain ⟨-, k, rfl, hk, -⟩ := ship_ok HM.out HY.out
      obtain ⟨g, cp, hpf, hgb, hgz, hgc⟩ := got_block GC (by omega)
      have hgB : g ≠ B := fun e => HH.out.off.2.1 (by rw [hpf, e]; rfl)
      have hBg : B ≠ g := fun e => hgB e.symm
      have HPF := hide hpf
      obtain ⟨hgc1, hgf1⟩ := hgc k hk
      rw [hpf] at d8
      have hkI : (k : Int) < (m.pieces.length : Int) := by omega
      have hk0 : (0 : Int) ≤ (k : Int) := by omega
      have hsub : IntKind.i64.wrap ((k : Int) + 1 - 1) = (k : Int) := by rw [show (k : Int) + 1 - 1 = (k : Int) by omega]; exact IntWalk.i64_in _ (by omega)
      clear GC hgc hpf hx0
      go_wp2_with fail
      go_ret
      rw [HY.out]
      have G_2 := HH.out.got.yard HBW.out (by omega) HO.out
      have O_2 := notIn_new HH.out.off hlB HO.out
      obtain ⟨r1, k1, b1⟩ := box_set hRc.out G_2 O_2 HH.out.hB (j := 9) (by simp [millC]) (.slice alx q.1.length clx)
      obtain ⟨r2, k2, b2⟩ := box_set r1 k1 O_2 HH.out.hB (j := 10) (by simp [millC]) (.slice ahx q.2.length chx)
      obtain ⟨k3, b3⟩ := got_state k2 (k := k) hk (g := g) (by rw [HPF.out]; rfl) 2
      refine ⟨rfl, (((HBW.out.mono hbz).trans b1).trans b2).trans b3, fun x hx => ?_⟩
      obtain rfl := Option.some.inj hx
      exact ⟨_, _, _, _, r2.other (lo := g) (hi := g + 1) ((Other.refl _ _ _).setCell (p := ⟨g, k * 2 + 1, none⟩) (Nat.le_refl _) (Nat.lt_succ_self _) _) (by omega), k3⟩
end Go.Proofs.YtajjnciookhamaaGreat
namespace Go.Proofs.YtajjnciookhamaaGreat
open Go.RowKit
/-- What a function of the specification that changes a copy of a mill returns. -/
def SpecGot (base : Nat) (p : Value) (x : Mi × Bool) (w : World) (e : Ending) (w' : World) : Prop :=
  DoGot base x w e w' ∧ ∀ B T vs, RowL w B T vs → p.ownBlock ≠ some B → RowL w' B T vs
/-- The mill behind a deed, and whether it was done. -/
def orOld (m : Mi) (o : Option Mi) : Mi × Bool := match o with | none => (m, false) | some x => (x, true)
theorem melt_no1 {m : Mi} {t : Int} (h : m.strand ≠ 0) : meltD m t = none := by simp [meltD, h]
theorem melt_no2 {m : Mi} {t : Int} (h : mixBest m.store m.rule t = none) : meltD m t = none := by simp [meltD, h]
theorem melt_yes {m : Mi} {t : Int} {mix : List Int} (h1 : m.strand = 0) (h2 : mixBest m.store m.rule t = some mix) : meltD m t = some { m with store := takeM m.store mix, strand := 4 * t } := by simp [meltD, h1, h2]
set_option linter.unusedSimpArgs false in
set_option maxRecDepth 10000 in
set_option maxHeartbeats 1600000 in
theorem melt_impl {base B : Nat} {w : World} {s p l h : Value} {m : Mi} (tons : Int) (H : MillBox base B w s p l h m) :
    Calls Tryz.prog 38 #[.pointer (some ⟨B, 0, none⟩), .int .i64 tons] w (Meth base B (meltD m tons) w) := by
  have HH := hide H
  have hr := H.row
  have hlt := hr.lt
  have hS := H.got.all.store
  have HS := hide hS
  have hbz := H.got.hb
  have c0 : w.cell? ⟨B, 0, none⟩ = some s := hr.cell 0 (by simp [millC])
  have c1 : w.cell? ⟨B, 1, none⟩ = some (.int .i64 m.rule.lc) := hr.cell 1 (by simp [millC])
  have c2 : w.cell? ⟨B, 2, none⟩ = some (.int .i64 m.rule.hc) := hr.cell 2 (by simp [millC])
  have c3 : w.cell? ⟨B, 3, none⟩ = some (.int .i64 m.rule.lm) := hr.cell 3 (by simp [millC])
  have c4 : w.cell? ⟨B, 4, none⟩ = some (.int .i64 m.rule.hm) := hr.cell 4 (by simp [millC])
  have c5 : w.cell? ⟨B, 5, none⟩ = some (.int .i64 m.rule.ls) := hr.cell 5 (by simp [millC])
  have c6 : w.cell? ⟨B, 6, none⟩ = some (.int .i64 m.rule.hs) := hr.cell 6 (by simp [millC])
  have c7 : w.cell? ⟨B, 7, none⟩ = some (.int .i64 m.strand) := hr.cell 7 (by simp [millC])
  obtain ⟨ao, cap, rfl, -, -⟩ := H.got.so.form
  have hbest := fun W (K : StAt 0 W.heap.size W (.slice ao m.store.length cap) m.store) => best_impl (.slice ao m.store.length cap) m.store m.rule tons W K
  unfold grV at hbest
  have HBT := hide hbest
  clear hbest hr hS H
  by_cases hs : m.strand = 0
  · have hsB : (m.strand != 0) = false := by simp [hs]
    have HZ := hide hs
    clear hs
    go_enter Tryz.func38, Tryz.ntmps38
    go_wp2_with fail
    have hI : w.drew.cell? ⟨B, 0, none⟩ = some (.slice ao m.store.length cap) ∧ w.drew.cell? ⟨B, 1, none⟩ = some (.int .i64 m.rule.lc) ∧ w.drew.cell? ⟨B, 2, none⟩ = some (.int .i64 m.rule.hc) ∧ w.drew.cell? ⟨B, 3, none⟩ = some (.int .i64 m.rule.lm) ∧ w.drew.cell? ⟨B, 4, none⟩ = some (.int .i64 m.rule.hm) ∧ w.drew.cell? ⟨B, 5, none⟩ = some (.int .i64 m.rule.ls) ∧ w.drew.cell? ⟨B, 6, none⟩ = some (.int .i64 m.rule.hs) := ⟨c0, c1, c2, c3, c4, c5, c6⟩
    have HB1 := hide (HBT.out w.drew HS.out)
    go_region_held (fun W => W.cell? ⟨B, 0, none⟩ = some (.slice ao m.store.length cap) ∧ W.cell? ⟨B, 1, none⟩ = some (.int .i64 m.rule.lc) ∧ W.cell? ⟨B, 2, none⟩ = some (.int .i64 m.rule.hc) ∧ W.cell? ⟨B, 3, none⟩ = some (.int .i64 m.rule.lm) ∧ W.cell? ⟨B, 4, none⟩ = some (.int .i64 m.rule.hm) ∧ W.cell? ⟨B, 5, none⟩ = some (.int .i64 m.rule.ls) ∧ W.cell? ⟨B, 6, none⟩ = some (.int .i64 m.rule.hs)) (first | exact hI | exact hS1) (first
      | (go_at_call 80; (with_reducible refine HB1.out.mono ?_); rintro e w1 ⟨ao1, n1, cap1, rfl, hmix, hb⟩; have B_1 := hide (((Below.refl w.heap.size w).drew).trans hb); have hS1 : w1.cell? ⟨B, 0, none⟩ = some (.slice ao m.store.length cap) ∧ w1.cell? ⟨B, 1, none⟩ = some (.int .i64 m.rule.lc) ∧ w1.cell? ⟨B, 2, none⟩ = some (.int .i64 m.rule.hc) ∧ w1.cell? ⟨B, 3, none⟩ = some (.int .i64 m.rule.lm) ∧ w1.cell? ⟨B, 4, none⟩ = some (.int .i64 m.rule.hm) ∧ w1.cell? ⟨B, 5, none⟩ = some (.int .i64 m.rule.ls) ∧ w1.cell? ⟨B, 6, none⟩ = some (.int .i64 m.rule.hs) := by (have R1 := HH.out.row.below B_1.out hlt; exact ⟨R1.cell 0 (by simp [millC]), R1.cell 1 (by simp [millC]), R1.cell 2 (by simp [millC]), R1.cell 3 (by simp [millC]), R1.cell 4 (by simp [millC]), R1.cell 5 (by simp [millC]), R1.cell 6 (by simp [millC])⟩)))
    clear hb hS1 hI HB1
    cases hm : mixBest m.store m.rule tons with
    | none =>
      have HN := hide (melt_no2 hm)
      clear hmix
      go_wp2_with fail
      go_ret
      rw [HN.out]
      exact Meth.no (B_1.out.mono hbz)
    | some mix =>
      have HM := hide hm
      obtain ⟨hmb, -, ht1, ht2⟩ := best_ok hm
      have HMB := hide hmb
      have HI := hide (hmix mix hm)
      have hw4 : IntKind.i64.wrap (4 * tons) = 4 * tons := IntWalk.i64_in _ (by omega)
      have R_1 := HH.out.row.below B_1.out hlt
      have d0 : w1.cell? ⟨B, 0, none⟩ = some (.slice ao m.store.length cap) := R_1.cell 0 (by simp [millC])
      have hz1 := B_1.out.size
      have hlt1 := R_1.lt
      clear hmix hmb c0 c1 c2 c3 c4 c5 c6 c7 R_1
      go_wp2_with fail
      refine (take_impl (.slice ao m.store.length cap) (.slice ao1 n1 cap1) m.store mix w1 ((HS.out.below B_1.out).mono (Nat.le_refl _) hz1 (Nat.le_refl _)) (HI.out.mono (Nat.zero_le _) (Nat.le_refl _) (Nat.le_refl _)) HMB.out).mono ?_
      rintro e w2 ⟨v, rfl, own, hb2⟩
      have B_2 := hide (B_1.out.trans (hb2.mono hz1))
      have R_2 := HH.out.row.below B_2.out hlt
      have G_2 := hide (HH.out.got.store B_2.out hz1 (OwnE.own own) (4 * tons))
      have O_2 := hide (notIn_store HH.out.off (show B < w1.heap.size by omega) (OwnE.own own))
      obtain ⟨av, cv, rfl, -, -⟩ := own_slice own
      have HR2 := hide R_2
      have e0 : w2.cell? ⟨B, 0, none⟩ = some (.slice ao m.store.length cap) := R_2.cell 0 (by simp [millC])
      have e7 : w2.cell? ⟨B, 7, none⟩ = some (.int .i64 m.strand) := R_2.cell 7 (by simp [millC])
      have f0 := R_2.frozen 0
      have f7 := R_2.frozen 7
      clear own hb2 R_2 d0
      go_wp2_with fail
      go_ret
      rw [melt_yes HZ.out HM.out]
      obtain ⟨r1, g1, b1⟩ := box_set HR2.out G_2.out O_2.out HH.out.hB (j := 0) (by simp [millC]) (.slice av (takeM m.store mix).length cv)
      obtain ⟨r2, g2, b2⟩ := box_set r1 g1 O_2.out HH.out.hB (j := 7) (by simp [millC]) (.int .i64 (4 * tons))
      refine ⟨rfl, ((B_2.out.mono hbz).trans b1).trans b2, fun x hx => ?_⟩
      obtain rfl := Option.some.inj hx
      exact ⟨_, _, _, _, r2, g2⟩
  · have hsB : (m.strand != 0) = true := by simp [hs]
    have HN := hide (melt_no1 (t := tons) hs)
    clear hs
    go_enter Tryz.func38, Tryz.ntmps38
    go_wp2_with fail
    go_ret
    rw [HN.out]
    exact Meth.no (Below.refl _ _)
end Go.Proofs.YtajjnciookhamaaGreat
