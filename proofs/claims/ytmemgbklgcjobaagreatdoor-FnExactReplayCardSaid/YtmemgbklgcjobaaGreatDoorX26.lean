/-
  Parts of the proofs over mills, of: MethC, TextA. Conditions: each theorem states its own.
-/
import Derived.Lib.ItoaLen
import Derived.Deep.RegionHeld3
import Derived.Lib.AppendIntMem
import Derived.Test.YtmemgbklgcjobaaGreatDoorX24
set_option linter.unusedSimpArgs false
set_option linter.unusedVariables false
set_option maxRecDepth 10000
namespace Go.Proofs.YtmemgbklgcjobaaGreatDoor
open Go.RowKit
theorem quiet_left2 {P : Program} {f : FuncId} {args : Array Value} {w : World} {n k : Nat} {v : Value}
    (h : Calls P f args (w.drewN (k + n)) fun e w' => e = .returned v ∧ w.drewN (k + n) = w') : Calls P f args (w.drewN (k + n)) fun e w'' => e = .returned v ∧ ∃ m, w'' = w.drewN (k + m) :=
  h.mono fun _ _ ⟨he, hm⟩ => ⟨he, n, hm.symm⟩
theorem Other.alloc {lo hi : Nat} {a w : World} (h : Other lo hi a w) (o : Obj) : Other lo hi a (w.alloc o) :=
  h.trans (Other.of_below ((Below.refl w.heap.size w).alloc (Nat.le_refl _) o))
theorem grown_other {w w' : World} {g : Nat} (h : w.grownBy w' (some g)) : Other g (g + 1) w w' :=
  ⟨h.os, h.tape, h.output, h.size, fun k hk hd => h.block k hk (fun e => by have := Option.some.inj e; omega)⟩
theorem grown_none {w w' : World} {lo hi : Nat} (h : w.grownBy w' none) : Other lo hi w w' :=
  ⟨h.os, h.tape, h.output, h.size, fun k hk _ => h.block k hk (fun e => by cases e)⟩
theorem grown_any {w w' : World} {p : Value} (h : w.grownBy w' p.ownBlock) (X : Nat) : ∃ a z, Other a z w w' ∧ ((z = a + 1 ∧ p.ownBlock = some a) ∨ (a = X ∧ z = X)) := by
  cases hp : p.ownBlock with
  | none => rw [hp] at h; exact ⟨X, X, grown_none h, .inr ⟨rfl, rfl⟩⟩
  | some g => rw [hp] at h; exact ⟨g, g + 1, grown_other h, .inl ⟨rfl, rfl⟩⟩
structure CutInv (base B lo z : Nat) (w0 : World) (s l h : Value) (m : Mi) (v mv : Value) (xs ys : List Int) (W : World) (p : Value) (ps : List Pc) : Prop where
  row : RowL W B 31 (millC s p l h m)
  got : MillGot base W s p l h { m with pieces := ps }
  off : NotIn B s p l h
  bel : Below base w0 W
  len : IntsAt lo z W v xs
  man : IntsAt lo z W mv ys
  apz : ∀ g, p.ownBlock = some g → g < lo ∨ z ≤ g
  hB : base ≤ B ∧ B < lo
theorem CutInv.drew {base B lo z : Nat} {w0 W : World} {s l h v mv p : Value} {m : Mi} {xs ys : List Int} {ps : List Pc} (H : CutInv base B lo z w0 s l h m v mv xs ys W p ps) : CutInv base B lo z w0 s l h m v mv xs ys W.drew p ps :=
  ⟨H.row.drew, H.got.below (Below.refl _ _).drew, H.off, H.bel.drew, H.len.below (Below.refl _ _).drew, H.man.below (Below.refl _ _).drew, H.apz, H.hB⟩
theorem CutInv.alloc {base B lo z : Nat} {w0 W : World} {s l h v mv p : Value} {m : Mi} {xs ys : List Int} {ps : List Pc} (H : CutInv base B lo z w0 s l h m v mv xs ys W p ps) (o : Obj) : CutInv base B lo z w0 s l h m v mv xs ys (W.alloc o) p ps := by
  have k : Below W.heap.size W (W.alloc o) := (Below.refl _ _).alloc (Nat.le_refl _) o
  exact ⟨H.row.below k H.row.lt, H.got.below k, H.off, H.bel.trans (k.mono H.got.hb), H.len.below k, H.man.below k, H.apz, H.hB⟩
theorem CutInv.below {base B lo z : Nat} {w0 W W' : World} {s l h v mv p : Value} {m : Mi} {xs ys : List Int} {ps : List Pc} (H : CutInv base B lo z w0 s l h m v mv xs ys W p ps) (k : Below W.heap.size W W') : CutInv base B lo z w0 s l h m v mv xs ys W' p ps :=
  ⟨H.row.below k H.row.lt, H.got.below k, H.off, H.bel.trans (k.mono H.got.hb), H.len.below k, H.man.below k, H.apz, H.hB⟩
theorem CutInv.app {base B lo z : Nat} {w0 W W2 : World} {s l h v mv p p' : Value} {m : Mi} {xs ys : List Int} {ps : List Pc} (H : CutInv base B lo z w0 s l h m v mv xs ys W p ps) {x : Int} {n : Nat} {cs : List Value}
    (ho : OwnE base 73 2 W2 p' n cs) (hn : n = (ps ++ [(⟨x, 0⟩ : Pc)]).length) (hc : cs = flatP (ps ++ [(⟨x, 0⟩ : Pc)])) (hg : W.grownBy W2 p.ownBlock) (hb : ∀ g, p'.ownBlock = some g → p.ownBlock = some g ∨ W.heap.size ≤ g) :
    CutInv base B lo z w0 s l h m v mv xs ys (W2.setCell ⟨B, 8, none⟩ p') p' (ps ++ [(⟨x, 0⟩ : Pc)]) := by
  subst hn hc
  obtain ⟨a, y, hO, hay⟩ := grown_any hg W.heap.size
  have hBlt := H.row.lt
  have hpl := H.got.po.lt
  have hlz := H.len.lt
  have hpB := H.off.2.1
  have nB : B < a ∨ y ≤ B := by
    rcases hay with ⟨h1, h2⟩ | ⟨h1, h2⟩
    · have : a ≠ B := fun e => hpB (e ▸ h2)
      omega
    · omega
  have hd : ∀ {u : Value} {T sz k : Nat} {cs : List Value}, OwnE base T sz W u k cs → Apart u p → ∀ g, u.ownBlock = some g → g < a ∨ y ≤ g := fun hu ha g hgu => by
    have := (hu.lt g hgu).2
    rcases hay with ⟨h1, h2⟩ | ⟨h1, h2⟩
    · have : g ≠ a := fun e => ha g hgu (e ▸ h2)
      omega
    · omega
  have hzz : z ≤ a ∨ y ≤ lo := by
    rcases hay with ⟨h1, h2⟩ | ⟨h1, h2⟩
    · have := H.apz a h2; omega
    · omega
  have nO : base ≤ a := by
    rcases hay with ⟨h1, h2⟩ | ⟨h1, h2⟩
    · exact (hpl a h2).1
    · have := H.got.hb; omega
  have pB : p'.ownBlock ≠ some B := fun e => by
    rcases hb B e with h1 | h1
    · exact hpB h1
    · omega
  have ap : ∀ {u : Value} {T sz k : Nat} {cs : List Value}, OwnE base T sz W u k cs → Apart u p → Apart u p' := fun hu ha g h1 h2 => by
    rcases hb g h2 with h3 | h3
    · exact ha g h1 h3
    · have := (hu.lt g h1).2; omega
  have G2 : MillGot base W2 s p' l h { m with pieces := ps ++ [(⟨x, 0⟩ : Pc)] } :=
    ⟨Nat.le_trans H.got.hb hO.size, H.got.so.other hO (hd H.got.so H.got.sp), ho, H.got.lo.other hO (hd H.got.lo H.got.pl.symm), H.got.ho.other hO (hd H.got.ho H.got.ph.symm),
      ap H.got.so H.got.sp, H.got.sl, H.got.sh, (ap H.got.lo H.got.pl.symm).symm, (ap H.got.ho H.got.ph.symm).symm, H.got.lh⟩
  have O2 : NotIn B s p' l h := ⟨H.off.1, pB, H.off.2.2⟩
  obtain ⟨r, g, b⟩ := box_set (H.row.other hO nB) G2 O2 H.hB.1 (j := 8) (by simp [millC]) p'
  have kB : Other B (B + 1) W2 (W2.setCell ⟨B, 8, none⟩ p') := (Other.refl _ _ _).setCell (p := ⟨B, 8, none⟩) (Nat.le_refl _) (Nat.lt_succ_self _) _
  have hBB := H.hB
  exact ⟨r, g, O2, (H.bel.trans (hO.below (B := base) nO H.got.hb)).trans b, (H.len.other hO hzz).other kB (by omega), (H.man.other hO hzz).other kB (by omega), fun g hg => by
    rcases hb g hg with h1 | h1
    · exact H.apz g h1
    · exact .inr (by omega), H.hB⟩
structure CutK (B z : Nat) (w1 : World) (p0 : Value) (W : World) (p : Value) : Prop where
  blk : ∀ g, p.ownBlock = some g → p0.ownBlock = some g ∨ z ≤ g
  keep : ∀ G, G < z → G ≠ B → p0.ownBlock ≠ some G → W.heap[G]? = w1.heap[G]?
  size : z ≤ W.heap.size
theorem CutK.below {B z : Nat} {w1 W W' : World} {p0 p : Value} (H : CutK B z w1 p0 W p) (k : Below W.heap.size W W') : CutK B z w1 p0 W' p :=
  ⟨H.blk, fun G h1 h2 h3 => (k.block G (Nat.lt_of_lt_of_le h1 H.size)).trans (H.keep G h1 h2 h3), Nat.le_trans H.size k.size⟩
theorem CutK.app {B z : Nat} {w1 W W2 : World} {p0 p p' : Value} (H : CutK B z w1 p0 W p) (hg : W.grownBy W2 p.ownBlock) (hb : ∀ g, p'.ownBlock = some g → p.ownBlock = some g ∨ W.heap.size ≤ g) (x : Value) : CutK B z w1 p0 (W2.setCell ⟨B, 8, none⟩ x) p' := by
  refine ⟨fun g e => ?_, fun G h1 h2 h3 => ?_, ?_⟩
  · rcases hb g e with h | h
    · exact H.blk g h
    · exact .inr (Nat.le_trans H.size h)
  · rw [Below.heap_setCell _ _ _ _ h2]
    refine (hg.block G (Nat.lt_of_lt_of_le h1 H.size) fun e => ?_).trans (H.keep G h1 h2 h3)
    rcases H.blk G e.symm with h | h
    · exact h3 h
    · omega
  · simp only [World.setCell]
    have := hg.size
    have := H.size
    simp
    omega
theorem flatP_one1 (ps : List Pc) (x : Int) : flatP ps ++ [.int .i64 x, .int .i64 0] = flatP (ps ++ [(⟨x, 0⟩ : Pc)]) := by simp [flatP, pcL]
theorem rep_snoc (ps : List Pc) (c : Nat) (x : Pc) : ps ++ List.replicate (c + 1) x = (ps ++ List.replicate c x) ++ [x] := by
  rw [List.replicate_succ', List.append_assoc]
theorem cutD_no1 {m : Mi} {a b : Int} (h : m.strand = 0) : cutD m a b = none := by simp [cutD, h]
theorem cutD_no2 {m : Mi} {a b : Int} (h : lensB a b = false) : cutD m a b = none := by simp [cutD, h]
theorem cutD_no3 {m : Mi} {a b : Int} (h : ¬ m.pieces.length + many0 m.strand a b + many1 m.strand a b ≤ 30) : cutD m a b = none := by simp [cutD, h]
theorem cutD_no4 {m : Mi} {a b : Int} (h : ¬ m.scrap + wasteR m.strand a b ≤ 999) : cutD m a b = none := by simp [cutD, h]
theorem cutD_yes {m : Mi} {a b : Int} (h1 : m.strand ≠ 0) (h2 : lensB a b = true) (h3 : m.pieces.length + many0 m.strand a b + many1 m.strand a b ≤ 30) (h4 : m.scrap + wasteR m.strand a b ≤ 999) :
    cutD m a b = some { m with pieces := m.pieces ++ newPcs m.strand a b, strand := 0, scrap := m.scrap + wasteR m.strand a b } := by simp [cutD, h1, h2, h3, h4]
theorem tons_many (L : Nat) (a b : Int) : tonsR (manyL L a b) = (many0 L a b : Int) + many1 L a b := by simp [tonsR, manyL, sumTo]
def nameB (k : Int) : ByteArray :=
  if k == 0 then ⟨#[109, 101, 108, 116]⟩ else if k == 1 then ⟨#[99, 117, 116]⟩ else if k == 2 then ⟨#[114, 111, 108, 108]⟩ else if k == 3 then ⟨#[108, 105, 102, 116]⟩ else if k == 4 then ⟨#[115, 104, 105, 112]⟩ else ⟨#[]⟩
def twoB (k : Int) : Bool := k == 1 || k == 2 || k == 3
def numB (n : Int) : ByteArray := ⟨(Lib.itoa n).toArray⟩
def spB : ByteArray := ⟨#[32]⟩
theorem l8Name_any (k : Int) (w : World) :
    Calls Tryz.prog 130 #[.int .i64 k] w fun e w' => e = .returned (.string (nameB k)) ∧ w = w' := by
  go_enter Tryz.func130, Tryz.ntmps130
  go_wp2
  all_goals
    go_ret
    exact ⟨by simp_all [nameB], rfl⟩
theorem l8Two_any (k : Int) (w : World) :
    Calls Tryz.prog 131 #[.int .i64 k] w fun e w' => e = .returned (.bool (twoB k)) ∧ w = w' := by
  rcases h1 : (k == 1) <;> rcases h2 : (k == 2) <;> (
    go_enter Tryz.func131, Tryz.ntmps131
    go_wp2
    go_ret
    exact ⟨by simp_all [twoB], rfl⟩)
theorem hasTwo_any (k : Int) (w : World) :
    Calls Tryz.prog 81 #[.int .i64 k] w fun e w' => e = .returned (.bool (twoB k)) ∧ w = w' := by
  rcases h1 : (k == 1) <;> rcases h2 : (k == 2) <;> (
    go_enter Tryz.func81, Tryz.ntmps81
    go_wp2
    go_ret
    exact ⟨by simp_all [twoB], rfl⟩)
theorem conv1 {b : Nat} {z : Int} (W : World) (h : W.cell? ⟨b, 0, none⟩ = some (.int .u8 z)) (h0 : 0 ≤ z) (h1 : z ≤ 255) :
    (convert 22 9 (.slice (some ⟨b, 0, none⟩) 1 1)).run Tryz.prog W = .ok (.string ⟨#[UInt8.ofNat z.toNat]⟩) W := by
  have := run_convert_bytes_back (P := Tryz.prog) W 22 9 5 ⟨b, 0, none⟩ 1 [UInt8.ofNat z.toNat] (by kernel_rfl) (by kernel_rfl) (by kernel_rfl) (fun j hj => by
    simp at hj
    subst hj
    have ha : (⟨b, 0, none⟩ : Addr).add 0 = ⟨b, 0, none⟩ := by simp [Addr.add]
    rw [ha, h]
    have : (UInt8.ofNat z.toNat).toNat = z.toNat := by simp; omega
    simp [this]; omega)
  exact this
theorem numB_small (n : Nat) (h : n < 10) : (⟨#[UInt8.ofNat (48 + n)]⟩ : ByteArray) = numB n := by
  rw [numB, Lib.itoa_nonneg, Lib.decDigits, dif_pos h]
theorem numB_big (n : Nat) (h : ¬ n < 10) : numB ((n / 10 : Nat) : Int) ++ (⟨#[UInt8.ofNat (48 + ((n % 10 : Nat) : Int)).toNat]⟩ : ByteArray) = numB n := by
  have e : (48 + ((n % 10 : Nat) : Int)).toNat = 48 + n % 10 := by omega
  rw [numB, numB, Lib.itoa_nonneg, Lib.itoa_nonneg, Lib.decDigits.eq_def n, dif_neg h, e]
  apply ByteArray.ext
  simp
theorem numB_len (n : Int) (h : -9223372036854775808 ≤ n) (h' : n ≤ 9223372036854775807) : (numB n).size ≤ 21 := by
  have := Lib.itoa_length_le n (by omega) (by omega)
  simpa [numB, ByteArray.size] using this
theorem l1Number_nat (n : Nat) : ∀ (w : World), n ≤ 9223372036854775807 →
    Calls Tryz.prog 122 #[.int .i64 n] w fun e w' => e = .returned (.string (numB n)) ∧ Below w.heap.size w w' := by
  induction n using Nat.strongRecOn with
  | _ n ih =>
  intro w hn
  by_cases h : n < 10
  · have h0 : decide ((n : Int) < 0) = false := by simp
    have h1 : decide ((n : Int) < 10) = true := by simp; omega
    have hcv : ∀ W : World, W.cell? ⟨w.heap.size, 0, none⟩ = some (.int .u8 (48 + (n : Int))) → (convert 22 9 (.slice (some ⟨w.heap.size, 0, none⟩) 1 1)).run Tryz.prog W = .ok (.string ⟨#[UInt8.ofNat (48 + (n : Int)).toNat]⟩) W := fun W hW => conv1 W hW (by omega) (by omega)
    go_enter Tryz.func122, Tryz.ntmps122
    set_option maxRecDepth 10000 in
    go_wp2
    go_ret
    exact ⟨by rw [← numB_small n h]; rfl, by go_grown⟩
  · have h0 : decide ((n : Int) < 0) = false := by simp
    have h1 : decide ((n : Int) < 10) = false := by simp; omega
    have hd : (n : Int).tdiv 10 = ((n / 10 : Nat) : Int) := by rw [Int.tdiv_eq_ediv_of_nonneg (by omega)]; omega
    have hm : (n : Int).tmod 10 = ((n % 10 : Nat) : Int) := by rw [Int.tmod_eq_emod_of_nonneg (by omega)]; omega
    have ih' := hide (ih (n / 10) (by omega))
    clear ih
    obtain ⟨d, hd'⟩ : ∃ d : Nat, d = n / 10 := ⟨_, rfl⟩
    obtain ⟨m, hm'⟩ : ∃ m : Nat, m = n % 10 := ⟨_, rfl⟩
    rw [← hd'] at ih' hd
    rw [← hm'] at hm
    have hm9 : m < 10 := by omega
    have hdn : d ≤ 9223372036854775807 := by omega
    have HD := hide hd'
    have HM := hide hm'
    clear hd' hm'
    have hcv : ∀ (W : World) (b : Nat), W.cell? ⟨b, 0, none⟩ = some (.int .u8 (48 + (m : Int))) → (convert 22 9 (.slice (some ⟨b, 0, none⟩) 1 1)).run Tryz.prog W = .ok (.string ⟨#[UInt8.ofNat (48 + (m : Int)).toNat]⟩) W := fun W b hW => conv1 W hW (by omega) (by omega)
    go_enter Tryz.func122, Tryz.ntmps122
    set_option maxRecDepth 10000 in
    go_wp2
    have hsz : ¬ 9223372036854775807 < (numB (d : Int)).size + 1 := by have := numB_len d (by omega) (by omega); omega
    have hb0 : Below w.heap.size w w.drew := by go_grown
    have hw1 : IntKind.i64.wrap (d : Int) = (d : Int) := by rw [IntWalk.i64_in] <;> omega
    have hw2 : IntKind.i64.wrap (48 + (m : Int)) = 48 + (m : Int) := by rw [IntWalk.i64_in] <;> omega
    have hw3 : IntKind.u8.wrap (48 + (m : Int)) = 48 + (m : Int) := by simp [IntKind.wrap, IntKind.signed, IntKind.bits]; omega
    go_region_held (fun w' => Below w.heap.size w w') (first | exact hb0 | assumption | (exact Below.step (by assumption) (by assumption) (Nat.le_refl _)) | (exact (Below.alloc (Below.refl _ _) (Nat.le_refl _) _).drew) | (exact Below.alloc (by assumption) (Nat.le_refl _) _) | (exact Below.alloc (by assumption) (by have := hb0.size; have := hb1.size; simp at *; omega) _) | (exact Below.alloc (by assumption) (by have := hb1.size; simpa using this) _) | (trace_state; fail)) (first | (go_at_call 122; refine (ih'.out _ hdn).mono ?_; rintro e w1 ⟨rfl, hb1⟩; obtain ⟨hc1, hc2⟩ := bcell hb1))
    all_goals
      have hbE := hide (show Below w.heap.size w _ by assumption)
      go_wp2_with fail
      go_ret
      have e1 := numB_big n h
      rw [← HD.out, ← HM.out] at e1
      exact ⟨by rw [← e1]; rfl, hbE.out⟩
def dtB (k o t : Int) : ByteArray :=
  if wi k 0 4 && (wi o 0 9999 && (wi t 0 9999 && (twoB k || t == 0))) then (if twoB k then ((nameB k ++ spB) ++ numB o) ++ spB ++ numB t else (nameB k ++ spB) ++ numB o) else ⟨#[]⟩
theorem l1Number_any (n : Int) (h0 : 0 ≤ n) (h1 : n ≤ 9223372036854775807) (w : World) :
    Calls Tryz.prog 122 #[.int .i64 n] w fun e w' => e = .returned (.string (numB n)) ∧ Below w.heap.size w w' := by
  obtain ⟨m, rfl⟩ : ∃ m : Nat, n = m := ⟨n.toNat, by omega⟩
  exact l1Number_nat m w (by omega)
theorem name_empty (k : Int) : (nameB k).toList.isEmpty = !wi k 0 4 := by
  by_cases h : 0 ≤ k ∧ k ≤ 4
  · obtain ⟨h1, h2⟩ := h
    have : k = 0 ∨ k = 1 ∨ k = 2 ∨ k = 3 ∨ k = 4 := by omega
    rcases this with rfl | rfl | rfl | rfl | rfl <;> rw [ByteArray.toList_eq] <;> decide
  · have e : wi k 0 4 = false := by simp [wi]; omega
    rw [e]
    have h0 : (k == 0) = false := by simp; omega
    have h1 : (k == 1) = false := by simp; omega
    have h2 : (k == 2) = false := by simp; omega
    have h3 : (k == 3) = false := by simp; omega
    have h4 : (k == 4) = false := by simp; omega
    rw [ByteArray.toList_eq]
    simp [nameB, h0, h1, h2, h3, h4]
theorem name_len (k : Int) : (nameB k).size ≤ 4 := by
  unfold nameB
  repeat' split
  all_goals decide
theorem held3 {f : FuncId} {args : Array Value} {r : Value} (hc : ∀ w, Calls Tryz.prog f args w fun e w' => e = .returned r ∧ Below w.heap.size w w') {w0 W : World} {B : Nat} {u v x : Value}
    (h0 : W.cell? ⟨B, 0, none⟩ = some u) (h1 : W.cell? ⟨B, 1, none⟩ = some v) (hx : W.cell? ⟨B, 2, none⟩ = some x) (h2 : B < W.heap.size) (h3 : Below w0.heap.size w0 W) :
    Calls Tryz.prog f args W fun e w' => e = .returned r ∧ (w'.cell? ⟨B, 0, none⟩ = some u ∧ w'.cell? ⟨B, 1, none⟩ = some v ∧ w'.cell? ⟨B, 2, none⟩ = some x) ∧ B < w'.heap.size ∧ Below w0.heap.size w0 w' :=
  (hc W).mono fun e w' ⟨he, hb⟩ => ⟨he, ⟨by rw [hb.cell h2]; exact h0, by rw [hb.cell h2]; exact h1, by rw [hb.cell h2]; exact hx⟩, Nat.lt_of_lt_of_le h2 hb.size, Below.step h3 hb (Nat.le_refl _)⟩
theorem dt_spec (k o t : Int) (w : World) :
    Calls Tryz.prog 59 #[.agg #[.int .i64 k, .int .i64 o, .int .i64 t]] w fun e w' => e = .returned (.string (dtB k o t)) ∧ Below w.heap.size w w' := by
  rcases hk : wi k 0 4
  · have hn := name_empty k
    rw [hk, Bool.not_false] at hn
    go_enter Tryz.func59, Tryz.ntmps59
    go_wp2_with fail
    refine (l8Name_any _ _).mono ?_
    rintro e w1 ⟨rfl, rfl⟩
    set_option maxRecDepth 10000 in
    go_wp2_with fail
    go_ret
    exact ⟨by simp [dtB, hk], by go_grown⟩
  have hn := name_empty k
  rw [hk, Bool.not_true] at hn
  have hI := fun w => l1In_any o 0 9999 w
  rcases ho : wi o 0 9999
  · rw [ho] at hI
    go_enter Tryz.func59, Tryz.ntmps59
    go_wp2_with fail
    refine (l8Name_any _ _).mono ?_
    rintro e w1 ⟨rfl, rfl⟩
    set_option maxRecDepth 10000 in
    go_wp2_with fail
    refine (hI _).mono ?_
    rintro e w1 ⟨rfl, rfl⟩
    set_option maxRecDepth 10000 in
    go_wp2_with fail
    go_ret
    exact ⟨by simp [dtB, ho], by go_grown⟩
  have hJ := fun w => l1In_any t 0 9999 w
  rcases ht : wi t 0 9999
  · rw [ho] at hI
    rw [ht] at hJ
    go_enter Tryz.func59, Tryz.ntmps59
    go_wp2_with fail
    refine (l8Name_any _ _).mono ?_
    rintro e w1 ⟨rfl, rfl⟩
    set_option maxRecDepth 10000 in
    go_wp2_with fail
    refine (hI _).mono ?_
    rintro e w1 ⟨rfl, rfl⟩
    set_option maxRecDepth 10000 in
    go_wp2_with fail
    refine (hJ _).mono ?_
    rintro e w1 ⟨rfl, rfl⟩
    set_option maxRecDepth 10000 in
    go_wp2_with fail
    go_ret
    exact ⟨by simp [dtB, ht], by go_grown⟩
  have hT := fun w => l8Two_any k w
  have hob : 0 ≤ o ∧ o ≤ 9999 := by simpa [wi] using ho
  have htb : 0 ≤ t ∧ t ≤ 9999 := by simpa [wi] using ht
  rcases htw : twoB k
  · rcases ht0 : (t == 0)
    · have ht1 : (t != 0) = true := by simpa using ht0
      rw [ho] at hI
      rw [ht] at hJ
      rw [htw] at hT
      go_enter Tryz.func59, Tryz.ntmps59
      go_wp2_with fail
      refine (l8Name_any _ _).mono ?_
      rintro e w1 ⟨rfl, rfl⟩
      set_option maxRecDepth 10000 in
      go_wp2_with fail
      refine (hI _).mono ?_
      rintro e w1 ⟨rfl, rfl⟩
      set_option maxRecDepth 10000 in
      go_wp2_with fail
      refine (hJ _).mono ?_
      rintro e w1 ⟨rfl, rfl⟩
      set_option maxRecDepth 10000 in
      go_wp2_with fail
      refine (hT _).mono ?_
      rintro e w1 ⟨rfl, rfl⟩
      set_option maxRecDepth 10000 in
      go_wp2_with fail
      go_ret
      exact ⟨by simp [dtB, htw, ht0], by go_grown⟩
    · have ht1 : (t != 0) = false := by simpa using ht0
      rw [ho] at hI
      rw [ht] at hJ
      rw [htw] at hT
      have hN1 := fun w => l1Number_any o hob.1 (by omega) w
      have hN2 := fun w => l1Number_any t htb.1 (by omega) w
      have hnl := name_len k
      have hs1 : ¬ 9223372036854775807 < (nameB k).size + 1 := by omega
      have hol := numB_len o (by omega) (by omega)
      have htl := numB_len t (by omega) (by omega)
      have hs2 : ¬ 9223372036854775807 < (nameB k).size + 1 + (numB o).size := by omega
      have hs3 : ¬ 9223372036854775807 < (nameB k).size + 1 + (numB o).size + 1 := by omega
      have hs4 : ¬ 9223372036854775807 < (nameB k).size + 1 + (numB o).size + 1 + (numB t).size := by omega
      clear hnl hol htl
      go_enter Tryz.func59, Tryz.ntmps59
      go_wp2_with fail
      refine (l8Name_any _ _).mono ?_
      rintro e w1 ⟨rfl, rfl⟩
      set_option maxRecDepth 10000 in
      go_wp2_with fail
      refine (hI _).mono ?_
      rintro e w1 ⟨rfl, rfl⟩
      set_option maxRecDepth 10000 in
      go_wp2_with fail
      refine (hJ _).mono ?_
      rintro e w1 ⟨rfl, rfl⟩
      set_option maxRecDepth 10000 in
      go_wp2_with fail
      refine (hT _).mono ?_
      rintro e w1 ⟨rfl, rfl⟩
      set_option maxRecDepth 10000 in
      go_wp2_with fail
      obtain ⟨wx, hwx⟩ : ∃ wx, wx = w.alloc (Obj.cells #[Value.int IntKind.i64 k, Value.int IntKind.i64 o, Value.int IntKind.i64 t] 48) := ⟨_, rfl⟩
      rw [← hwx]
      have hdb : Below w.heap.size w wx.drew := by rw [hwx]; exact ((Below.refl _ _).alloc (Nat.le_refl _) _).drew
      have hd0 : wx.drew.cell? ⟨w.heap.size, 0, none⟩ = some (.int .i64 k) := by rw [hwx]; simp [go_sem]
      have hd1 : wx.drew.cell? ⟨w.heap.size, 1, none⟩ = some (.int .i64 o) := by rw [hwx]; simp [go_sem]
      have hd2 : wx.drew.cell? ⟨w.heap.size, 2, none⟩ = some (.int .i64 t) := by rw [hwx]; simp [go_sem]
      have hdl : w.heap.size < wx.drew.heap.size := by rw [hwx]; simp
      clear hwx
      go_region_held3 (fun w' => (w'.cell? ⟨w.heap.size, 0, none⟩ = some (.int .i64 k) ∧ w'.cell? ⟨w.heap.size, 1, none⟩ = some (.int .i64 o) ∧ w'.cell? ⟨w.heap.size, 2, none⟩ = some (.int .i64 t)) ∧ w.heap.size < w'.heap.size ∧ Below w.heap.size w w') (first | (exact ⟨⟨hd0, hd1, hd2⟩, hdl, hdb⟩) | (exact ⟨⟨by assumption, by assumption, by assumption⟩, by assumption, by assumption⟩)) (first | (go_at_call 130; refine (l8Name_any _ _).mono ?_; rintro e w' ⟨rfl, rfl⟩) | (go_at_call 122; refine (held3 hN1 (by assumption) (by assumption) (by assumption) (by assumption) (by assumption)).mono ?_; rintro e w' ⟨rfl, ⟨k0, k1, k2⟩, k3, k4⟩))
      set_option maxRecDepth 10000 in
      go_wp2_with fail
      refine (hT _).mono ?_
      rintro e w1 ⟨rfl, rfl⟩
      have hbE := hide (show Below w.heap.size w _ from by assumption)
      set_option maxRecDepth 10000 in
      go_wp2_with fail
      go_ret
      exact ⟨by rw [dtB, hk, ho, ht, htw, ht0]; rfl, hbE.out⟩
  · rw [ho] at hI
    rw [ht] at hJ
    rw [htw] at hT
    have hN1 := fun w => l1Number_any o hob.1 (by omega) w
    have hN2 := fun w => l1Number_any t htb.1 (by omega) w
    have hnl := name_len k
    have hs1 : ¬ 9223372036854775807 < (nameB k).size + 1 := by omega
    have hol := numB_len o (by omega) (by omega)
    have htl := numB_len t (by omega) (by omega)
    have hs2 : ¬ 9223372036854775807 < (nameB k).size + 1 + (numB o).size := by omega
    have hs3 : ¬ 9223372036854775807 < (nameB k).size + 1 + (numB o).size + 1 := by omega
    have hs4 : ¬ 9223372036854775807 < (nameB k).size + 1 + (numB o).size + 1 + (numB t).size := by omega
    clear hnl hol htl
    go_enter Tryz.func59, Tryz.ntmps59
    go_wp2_with fail
    refine (l8Name_any _ _).mono ?_
    rintro e w1 ⟨rfl, rfl⟩
    set_option maxRecDepth 10000 in
    go_wp2_with fail
    refine (hI _).mono ?_
    rintro e w1 ⟨rfl, rfl⟩
    set_option maxRecDepth 10000 in
    go_wp2_with fail
    refine (hJ _).mono ?_
    rintro e w1 ⟨rfl, rfl⟩
    set_option maxRecDepth 10000 in
    go_wp2_with fail
    refine (hT _).mono ?_
    rintro e w1 ⟨rfl, rfl⟩
    set_option maxRecDepth 10000 in
    go_wp2_with fail
    obtain ⟨wx, hwx⟩ : ∃ wx, wx = w.alloc (Obj.cells #[Value.int IntKind.i64 k, Value.int IntKind.i64 o, Value.int IntKind.i64 t] 48) := ⟨_, rfl⟩
    rw [← hwx]
    have hdb : Below w.heap.size w wx.drew := by rw [hwx]; exact ((Below.refl _ _).alloc (Nat.le_refl _) _).drew
    have hd0 : wx.drew.cell? ⟨w.heap.size, 0, none⟩ = some (.int .i64 k) := by rw [hwx]; simp [go_sem]
    have hd1 : wx.drew.cell? ⟨w.heap.size, 1, none⟩ = some (.int .i64 o) := by rw [hwx]; simp [go_sem]
    have hd2 : wx.drew.cell? ⟨w.heap.size, 2, none⟩ = some (.int .i64 t) := by rw [hwx]; simp [go_sem]
    have hdl : w.heap.size < wx.drew.heap.size := by rw [hwx]; simp
    clear hwx
    go_region_held3 (fun w' => (w'.cell? ⟨w.heap.size, 0, none⟩ = some (.int .i64 k) ∧ w'.cell? ⟨w.heap.size, 1, none⟩ = some (.int .i64 o) ∧ w'.cell? ⟨w.heap.size, 2, none⟩ = some (.int .i64 t)) ∧ w.heap.size < w'.heap.size ∧ Below w.heap.size w w') (first | (exact ⟨⟨hd0, hd1, hd2⟩, hdl, hdb⟩) | (exact ⟨⟨by assumption, by assumption, by assumption⟩, by assumption, by assumption⟩)) (first | (go_at_call 130; refine (l8Name_any _ _).mono ?_; rintro e w' ⟨rfl, rfl⟩) | (go_at_call 122; refine (held3 hN1 (by assumption) (by assumption) (by assumption) (by assumption) (by assumption)).mono ?_; rintro e w' ⟨rfl, ⟨k0, k1, k2⟩, k3, k4⟩))
    set_option maxRecDepth 10000 in
    go_wp2_with fail
    refine (hT _).mono ?_
    rintro e w1 ⟨rfl, rfl⟩
    set_option maxRecDepth 10000 in
    go_wp2_with fail
    refine (hN2 _).mono ?_
    rintro e w5 ⟨rfl, hb5⟩
    have hbE := hide (Below.step (show Below w.heap.size w _ from by assumption) hb5 (Nat.le_refl _))
    clear hb5
    set_option maxRecDepth 10000 in
    go_wp2_with fail
    go_ret
    exact ⟨by rw [dtB, hk, ho, ht, htw]; rfl, hbE.out⟩
def NamesIs (w : World) : Prop := w.var? Tryz.prog "loop.example/steelmill/impl.deedNames" = some #[.string (nameB 0), .string (nameB 1), .string (nameB 2), .string (nameB 3), .string (nameB 4)]
def PowIs (w : World) : Prop := Lib.TabIs Tryz.prog w "internal/strconv.uint64pow10" .u64 Lib.pow10Tab
theorem g_names : Tryz.prog.globalNamed "loop.example/steelmill/impl.deedNames" = some 0 := by kernel_rfl
theorem NamesIs.stays {w w' : World} (h : NamesIs w) (hb : Below w.heap.size w w') : NamesIs w' := Go.Joins.var_stays g_names h hb (Nat.le_refl _)
theorem NamesIs.cell {w : World} (h : NamesIs w) (m : Nat) (hm : m ≤ 4) : w.cell? ⟨0, m, none⟩ = some (.string (nameB m)) := by
  unfold NamesIs World.var? at h
  rw [g_names] at h
  simp only [Option.bind_some] at h
  split at h
  · rename_i cs t fr e
    simp only [Option.some.injEq] at h
    subst h
    have : m = 0 ∨ m = 1 ∨ m = 2 ∨ m = 3 ∨ m = 4 := by omega
    rcases this with rfl | rfl | rfl | rfl | rfl <;> simp [World.cell?, e]
  · cases h
theorem NamesIs.size {w : World} (h : NamesIs w) : 0 < w.heap.size := by
  have := h.cell 0 (by omega)
  rcases Nat.lt_or_ge 0 w.heap.size with h' | h'
  · exact h'
  · simp [World.cell?, Array.getElem?_eq_none h'] at this
theorem g_pow : Tryz.prog.globalNamed "internal/strconv.uint64pow10" = some 2 := by kernel_rfl
theorem PowIs.stays {w w' : World} (h : PowIs w) (hb : Below w.heap.size w w') : PowIs w' := Go.Joins.tab_stays g_pow h hb (Nat.le_refl _)
end Go.Proofs.YtmemgbklgcjobaaGreatDoor
