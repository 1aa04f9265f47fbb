/-
  spec.l1Cut: the walk.
-/
import Derived.Test.YtbafifilklfafaaDoorTextC
import Derived.Test.YtbafifilklfafaaDoorDraw
namespace Go.Proofs.YtbafifilklfafaaDoor
open Go.RowKit

/-- A piece set before the first of some pieces. -/
def glue (p : List UInt8) : List (List UInt8) → List (List UInt8)
  | [] => [p]
  | q :: qs => (p ++ q) :: qs
/-- A text cut at its spaces. -/
def cut32 : List UInt8 → List (List UInt8)
  | [] => [[]]
  | b :: l => if b = 32 then [] :: cut32 l else glue [b] (cut32 l)
theorem glue_ne (p : List UInt8) (c : List (List UInt8)) : glue p c ≠ [] := by cases c <;> simp [glue]
theorem cut32_ne (l : List UInt8) : cut32 l ≠ [] := by
  cases l with
  | nil => simp [cut32]
  | cons b l => rw [cut32]; split <;> simp [glue_ne]
theorem glue_nil {c : List (List UInt8)} (h : c ≠ []) : glue [] c = c := by cases c <;> simp_all [glue]
theorem glue_glue (p : List UInt8) (b : UInt8) (c : List (List UInt8)) (h : c ≠ []) : glue p (glue [b] c) = glue (p ++ [b]) c := by cases c <;> simp_all [glue]
theorem glue_sep (p : List UInt8) (l : List UInt8) : glue p (cut32 (32 :: l)) = p :: cut32 l := by
  rw [cut32, if_pos rfl]; simp [glue]
theorem glue_other (p : List UInt8) (b : UInt8) (l : List UInt8) (h : b ≠ 32) : glue p (cut32 (b :: l)) = glue (p ++ [b]) (cut32 l) := by
  rw [cut32, if_neg h, glue_glue _ _ _ (cut32_ne l)]

/-- A slice of strings that the function itself fills. -/
def OwnStr (base : Nat) (w : World) (v : Value) (xs : List ByteArray) : Prop :=
  (∃ g cap, v = .slice (some ⟨g, 0, none⟩) xs.length cap ∧ xs.length ≤ cap ∧ cap ≤ 9223372036854775807) ∧ w.ownsRow base 9 1 v xs.length (xs.map Value.string)
theorem OwnStr.new (base : Nat) (w : World) (hb : base ≤ w.heap.size) : OwnStr base (w.alloc (.cells #[] 9)) (.slice (some ⟨w.heap.size, 0, none⟩) 0 0) [] := by
  refine ⟨⟨_, _, rfl, Nat.le_refl _, by simp⟩, ?_⟩
  have := World.ownsRow_lit (e := 9) (size := 1) w #[] 0 hb (by unfold maxLen; omega) (by simp)
  simpa using this
theorem OwnStr.grown {base : Nat} {w w' : World} {v v' : Value} {xs : List ByteArray} {y : ByteArray} {o : Obj} (hw : OwnStr base w v xs) (hz : base ≤ w.heap.size)
    (hown : w'.ownsRow base 9 1 v' (xs.length + 1) (xs.map Value.string ++ [.string y])) (hg : (w.alloc o).grownBy w' v.ownBlock) :
    Below base w w' ∧ OwnStr base w' v' (xs ++ [y]) := by
  have hB : Below base w w' := ((Below.refl _ _).alloc hz _).grown hg (Nat.le_trans hz (by simp)) fun k hk => (hw.2.lt k hk).1
  have h : w'.ownsRow base 9 1 v' (xs ++ [y]).length ((xs ++ [y]).map Value.string) := by simpa using hown
  refine ⟨hB, ?_, h⟩
  rcases h.2 with ⟨_, e⟩ | ⟨g, cap, cur, e, _, _, h1, h2, _⟩
  · simp at e
  · exact ⟨g, cap, e, h1, by unfold maxLen at h2; exact h2⟩
theorem OwnStr.strs {base : Nat} {w : World} {v : Value} {xs : List ByteArray} (h : OwnStr base w v xs) : ∃ g cap, v = .slice (some ⟨g, 0, none⟩) xs.length cap ∧ xs.length ≤ cap ∧ cap ≤ 9223372036854775807 ∧ base ≤ g ∧ StrsAt w g xs := by
  obtain ⟨⟨g, cap, rfl, hc1, hc2⟩, ho⟩ := h
  have hlt := ho.lt g rfl
  refine ⟨g, cap, rfl, hc1, hc2, hlt.1, hlt.2, fun i hi => ?_⟩
  rcases ho.2 with ⟨e, _⟩ | ⟨g', cap', cur, e, _, hb, _, _, h3, h4⟩
  · cases e
  · simp only [Value.slice.injEq, Option.some.injEq, Addr.mk.injEq] at e
    obtain ⟨⟨rfl, -, -⟩, -, rfl⟩ := e
    rw [Go.Joins.cell_of_block hb]
    have h5 := congrArg (·[i]?) h4
    simp only [List.getElem?_map, List.getElem?_eq_getElem hi, Nat.mul_one, Option.map_some] at h5
    rw [List.getElem?_take_of_lt (by omega)] at h5
    simpa using h5

theorem info_str : (Tryd.prog.info? 9).map (fun i => (i.zero, i.size, i.bytes)) = some (some (.string ⟨#[]⟩), 1, 16) := by kernel_rfl
theorem info_split {o : Option TypeInfo} {a : Option Value} {b c : Nat} (h : o.map (fun i => (i.zero, i.size, i.bytes)) = some (a, b, c)) : ∃ i, o = some i ∧ i.zero = a ∧ i.size = b ∧ i.bytes = c := by
  obtain ⟨i, h1, h2⟩ := Option.map_eq_some_iff.1 h
  simp only [Prod.mk.injEq] at h2
  exact ⟨i, h1, h2.1, h2.2.1, h2.2.2⟩
theorem lit1 (w : World) (v : Value) (T : Nat) : ∀ j u, [v][j]? = some u → (w.alloc (.cells #[v] T)).cell? ((⟨w.heap.size, 0, none⟩ : Addr).add j) = some u := by
  intro j u hu
  have hj : j = 0 := by
    cases j with
    | zero => rfl
    | succ n => simp at hu
  subst hj
  simp at hu
  subst hu
  have hadd : (⟨w.heap.size, 0, none⟩ : Addr).add 0 = ⟨w.heap.size, 0, none⟩ := by simp [Addr.add]
  rw [hadd, Go.Joins.cell_alloc_mark_at _ _ _ _ _ _ rfl]
  rfl

/-- What l1Cut gives back. -/
def CutGot (s : ByteArray) (w : World) (e : Ending) (w' : World) : Prop :=
  ∃ (xs : List ByteArray) (g cap : Nat), e = .returned (.slice (some ⟨g, 0, none⟩) xs.length cap) ∧ xs.map (·.data.toList) = cut32 s.data.toList ∧ xs.length ≤ cap ∧ cap ≤ 9223372036854775807 ∧ w.heap.size ≤ g ∧ StrsAt w' g xs ∧ Below w.heap.size w w'

theorem ext_data (s : ByteArray) (f k : Nat) : (s.extract f k).data.toList = (s.data.toList.drop f).take (k - f) := Lib.extract_data s f k

set_option maxRecDepth 10000 in
set_option maxHeartbeats 800000 in
theorem l1Cut_any (s : ByteArray) (w : World) (hs : s.size < 4294967281) :
    Calls Tryd.prog 30 #[.string s, .int .u8 32] w (CutGot s w) := by
  obtain ⟨i0, hi0, hz0, hi1, hi2⟩ := info_split info_str
  have HN := hide (OwnStr.new w.heap.size w (Nat.le_refl _))
  go_enter Tryd.func30, Tryd.ntmps30
  go_wp2_with fail
  go_loopw [5, 6, 7] (fun o f i wr => ∃ (ps : List ByteArray) (a k : Nat), k ≤ s.size ∧ a ≤ k ∧ ps.length ≤ k ∧ i = .int .i64 k ∧ f = .int .i64 a ∧ Below w.heap.size w wr ∧ OwnStr w.heap.size wr o ps ∧
    cut32 s.data.toList = ps.map (·.data.toList) ++ glue ((s.data.toList.drop a).take (k - a)) (cut32 (s.data.toList.drop k))) (fun _ _ i _ => s.size - (intOf i).toNat)
  case atStart => exact ⟨[], 0, 0, Nat.zero_le _, Nat.le_refl _, by simp, rfl, rfl, (Below.refl _ _).alloc (Nat.le_refl _) _, HN.out, by simp [glue_nil (cut32_ne _)]⟩
  case round =>
    obtain ⟨ps, a, k, hk, hak, hpk, rfl, rfl, hb, hown, heq⟩ := hrel
    have HB := hide hb
    have HO := hide hown
    have HE := hide heq
    obtain ⟨⟨g, cap, rfl, hc1, hc2⟩, -⟩ := hown
    have hzr : w.heap.size ≤ wr.heap.size := hb.size
    clear hb heq
    by_cases hlt : k < s.size
    · have hki : (k : Int) < (s.size : Int) := by omega
      have hk0 : (0 : Int) ≤ (k : Int) := by omega
      have HD := hide (drop_byte s k hlt)
      obtain ⟨u, hu⟩ : ∃ u, s[k]'hlt = u := ⟨_, rfl⟩
      rw [hu] at HD
      obtain ⟨b, hb⟩ : ∃ b : Nat, u.toNat = b := ⟨_, rfl⟩
      by_cases h32 : b = 32
      · subst h32
        have hu32 : u = 32 := by
          apply UInt8.toNat_inj.1
          rw [hb]; rfl
        have HE2 := hide (show cut32 s.data.toList = (ps ++ [s.extract a k]).map (·.data.toList) ++ glue ((s.data.toList.drop (k + 1)).take (k + 1 - (k + 1))) (cut32 (s.data.toList.drop (k + 1))) by
          rw [HE.out, HD.out, hu32, glue_sep, Nat.sub_self, List.take_zero, glue_nil (cut32_ne _)]
          simp)
        have ha0 : (0 : Int) ≤ (a : Int) := by omega
        have haki : (a : Int) ≤ (k : Int) := by omega
        have hksi : (k : Int) ≤ (s.size : Int) := by omega
        clear hu32
        go_wp2_with (at_builtin; refine wpList_append_own _ rfl _ _ _ rfl w.heap.size 9 i0 _ 1 16 Tryd.underlying61 hi0 hz0 hi1 hi2 rfl (by decide) _ ps.length (ps.map Value.string) rfl (HO.out.2.alloc _) ⟨wr.heap.size, 0, none⟩ 1 1 [.string (s.extract a k)] rfl rfl (lit1 wr _ _) ?g3 ?g4 ?g5 ?g6 ?_)
        case g3 => intro u hu; rw [List.mem_singleton] at hu; subst hu; rfl
        case g4 => unfold maxLen; omega
        case g5 => omega
        case g6 => exact Nat.le_trans hzr (by simp)
        intro v4 w4 hown4 hgrow4 _
        obtain ⟨hB, hI⟩ := OwnStr.grown HO.out hzr hown4 hgrow4
        have HI := hide hI
        have HB4 := hide (HB.out.trans hB)
        clear hown4 hgrow4 hB
        obtain ⟨⟨g4, cap4, rfl, hd1, hd2⟩, -⟩ := hI
        go_wp2_with fail
        go_roundw
        case rel => exact ⟨ps ++ [s.extract a k], k + 1, k + 1, by omega, Nat.le_refl _, by simp; omega, by go_num, by go_num, HB4.out, HI.out, HE2.out⟩
        case measure => simp [intOf]; omega
      · have hbB : ((b : Int) == 32) = false := by simp; omega
        have hu32 : u ≠ 32 := fun e => h32 (by rw [← hb, e]; rfl)
        have HE2 := hide (show cut32 s.data.toList = ps.map (·.data.toList) ++ glue ((s.data.toList.drop a).take (k + 1 - a)) (cut32 (s.data.toList.drop (k + 1))) by
          rw [HE.out, HD.out, glue_other _ _ _ hu32]
          congr 2
          rw [show k + 1 - a = (k - a) + 1 by omega, List.take_add_one]
          congr 1
          have e1 : (s.data.toList.drop a)[k - a]? = (s.data.toList.drop k)[0]? := by
            rw [List.getElem?_drop, List.getElem?_drop]
            congr 1; omega
          rw [e1, HD.out]
          rfl)
        clear hu32
        go_wp2_with fail
        go_roundw
        case rel => exact ⟨ps, a, k + 1, by omega, by omega, by omega, by go_num, rfl, HB.out, HO.out, HE2.out⟩
        case measure => simp [intOf]; omega
    · have hkn : k = s.size := by omega
      have ha0 : (0 : Int) ≤ (a : Int) := by omega
      have hasi : (a : Int) ≤ (s.size : Int) := by omega
      have HE2 := hide (show (ps ++ [s.extract a s.size]).map (·.data.toList) = cut32 s.data.toList by
        rw [HE.out, hkn, List.drop_of_length_le (Nat.le_of_eq (size_len s))]
        simp [cut32, glue])
      have hkB : decide ((k : Int) < (s.size : Int)) = false := by simp; omega
      go_wp2_with (at_builtin; refine wpList_append_own _ rfl _ _ _ rfl w.heap.size 9 i0 _ 1 16 Tryd.underlying61 hi0 hz0 hi1 hi2 rfl (by decide) _ ps.length (ps.map Value.string) rfl (HO.out.2.alloc _) ⟨wr.heap.size, 0, none⟩ 1 1 [.string (s.extract a s.size)] rfl rfl (lit1 wr _ _) ?g3 ?g4 ?g5 ?g6 ?_)
      case g3 => intro u hu; rw [List.mem_singleton] at hu; subst hu; rfl
      case g4 => unfold maxLen; omega
      case g5 => omega
      case g6 => exact Nat.le_trans hzr (by simp)
      intro v4 w4 hown4 hgrow4 _
      obtain ⟨hB, hI⟩ := OwnStr.grown HO.out hzr hown4 hgrow4
      have HB4 := hide (HB.out.trans hB)
      clear hown4 hgrow4 hB
      obtain ⟨g4, cap4, rfl, hd1, hd2, hd3, hd4⟩ := hI.strs
      have HD4 := hide hd4
      clear hd4 hI
      go_wp2_with fail
      go_ret
      exact ⟨_, g4, cap4, rfl, HE2.out, hd1, hd2, hd3, HD4.out, HB4.out⟩
end Go.Proofs.YtbafifilklfafaaDoor
