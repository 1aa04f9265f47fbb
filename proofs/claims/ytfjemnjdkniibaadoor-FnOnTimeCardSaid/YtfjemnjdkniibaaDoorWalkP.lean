/-
  The walks over TwoLong.
-/
import Derived.Test.YtfjemnjdkniibaaDoorWalkO
import Derived.Test.YtfjemnjdkniibaaDoorPlainLong
namespace Go.Proofs.YtfjemnjdkniibaaDoor
open Go.RowKit

theorem jsv_mem {js : List J} (hv : jsvB js = true) : ∀ j ∈ js, jvB j = true := fun j hj => by
  obtain ⟨i, hi, rfl⟩ := List.getElem_of_mem hj
  exact jsvB_at hv hi
theorem shl1 {x : Nat} (hx : x < 6) : IntKind.i64.wrap (2 ^ x) = ((2 ^ x : Nat) : Int) := by
  have : x = 0 ∨ x = 1 ∨ x = 2 ∨ x = 3 ∨ x = 4 ∨ x = 5 := by omega
  rcases this with rfl | rfl | rfl | rfl | rfl | rfl <;> decide

theorem wrap_bit {z k : Nat} (h : z + 2 ^ k < 64) : wrap64 ((z : Int) + 2 ^ k) = ((z + 2 ^ k : Nat) : Int) := by
  have e : (((2 : Nat) ^ k : Nat) : Int) = (2 : Int) ^ k := by simp
  rw [← e]
  obtain ⟨p, hp⟩ : ∃ p : Nat, 2 ^ k = p := ⟨_, rfl⟩
  rw [hp] at h ⊢
  unfold wrap64
  omega

/-- The order by K: what is in it. -/
theorem so_fact {K : J → J → Int} (C : Cmp K fun j => jvB j = true) {js : List J} (hv : jsvB js = true) :
    (∀ a ∈ soTo K js js.length, ix js a) ∧ (soTo K js js.length).Nodup ∧ ∀ k (hk : k < (soTo K js js.length).length), ∃ x : Nat, (soTo K js js.length)[k] = x ∧ x < js.length := by
  obtain ⟨h1, h2, _⟩ := so_sorted C (jsv_mem hv) js.length (Nat.le_refl _)
  refine ⟨h1, RI_nodup C (jsv_mem hv) h1 h2, fun k hk => ?_⟩
  have := h1 _ (List.getElem_mem hk)
  have g1 := this.1
  have g2 := this.2
  exact ⟨(soTo K js js.length)[k].toNat, by omega, by omega⟩

/-- The next state of the sharing. -/
theorem sh_next {js : List J} {os : List Int} {k x : Nat} (hk : k < os.length) (hx : os[k] = x) {f s : Int} {z : Nat} (h : sh js (os.take k) = (f, s, z)) :
    sh js (os.take (k + 1)) = if f ≤ s then (f + (jAt js x).s, s, z) else (f, s + (jAt js x).s, z + 2 ^ x) := by
  rw [List.take_succ_eq_append_getElem hk, sh_snoc, h, hx]
  simp [shStep]

set_option maxHeartbeats 800000 in
theorem twoLong_impl (v : Value) (js : List J) (lo hi : Nat) (w : World) (h : JobsAt lo hi w v js) :
    Calls Tryd.prog 45 #[v] w fun e w' => e = .returned (.int .i64 (longR js)) ∧ Below w.heap.size w w' := by
  obtain ⟨ao, cap, rfl, hlc, hcap, hhi, hc⟩ := id h
  have Hc := hide hc
  have HH := hide h
  clear hc h
  cases hv : jsvB js with
  | false =>
    have HR := hide (show longR js = -1 by simp [longR, hv])
    have HV := hide hv
    clear hv
    go_enter Tryd.func45, Tryd.ntmps45
    go_wp2_with fail
    refine (jsv_impl _ js lo hi _ HH.out).mono ?_
    rw [HV.out]
    rintro e w1 ⟨rfl, hb1⟩
    go_wp2_with fail
    go_ret
    exact ⟨by rw [HR.out]; rfl, hb1⟩
  | true =>
    have hl := jsvB_len hv
    have HR := hide (show longR js = (sh js (soTo kSpan js js.length)).2.2 by simp [longR, hv])
    have HO := hide (show orderR kSpan js = soTo kSpan js js.length by simp [orderR, hv])
    have hsl := soTo_len kSpan js js.length
    obtain ⟨f1, f2, f3⟩ := so_fact cmpSpan hv
    have hok := sh_ok (jsv_mem hv) hl
    obtain ⟨os, hos⟩ : ∃ os, soTo kSpan js js.length = os := ⟨_, rfl⟩
    rw [hos] at HR HO hsl f1 f2 f3
    have hst : ∀ k, k ≤ js.length → 0 ≤ (sh js (os.take k)).1 ∧ 0 ≤ (sh js (os.take k)).2.1 ∧ (sh js (os.take k)).1 + (sh js (os.take k)).2.1 ≤ 99 * k ∧ (sh js (os.take k)).2.2 < 64 ∧ ∀ b : Nat, b < 6 → (b : Int) ∉ os.take k → (sh js (os.take k)).2.2.testBit b = false := by
      intro k hk
      have := hok (os.take k) (fun a ha => f1 a (List.mem_of_mem_take ha)) (f2.sublist (List.take_sublist _ _))
      rw [List.length_take, hsl, Nat.min_eq_left hk] at this
      exact this
    have hbit : ∀ k (hk : k < os.length) (x : Nat), os[k] = x → (x : Int) ∉ os.take k := by
      intro k hk x hx hm
      have h2 := f2
      rw [← List.take_append_drop k os, List.nodup_append] at h2
      refine h2.2.2 _ hm (x : Int) ?_ rfl
      rw [List.drop_eq_getElem_cons hk, hx]
      simp
    have Hst := hide hst
    have Hbit := hide hbit
    have F3 := hide f3
    have HV := hide hv
    have hol1 : os.length ≤ js.length := by omega
    have hol2 : js.length ≤ os.length := by omega
    clear hv hsl f1 f2 f3 hok hos hst hbit
    go_enter Tryd.func45, Tryd.ntmps45
    go_wp2_with fail
    refine (jsv_impl _ js lo hi _ HH.out).mono ?_
    rw [HV.out]
    rintro e w1 ⟨rfl, hb1⟩
    have H1 := hide (HH.out.below hb1)
    go_wp2_with fail
    refine (jobOrder_any span_cmp cmpSpan _ js lo hi _ H1.out).mono ?_
    rw [HO.out]
    rintro e w2 ⟨r, rfl, hr, hb2⟩
    have hb12 : Below w.heap.size w w2 := Below.step hb1 hb2 (Nat.le_refl _)
    obtain ⟨ao', cap', rfl, hlc', hcap', hhi', hc'⟩ := hr
    have Hc' := hide hc'
    clear hc'
    go_wp2_with fail
    go_loopw [4, 5, 6, 8, 16] (fun a b c _ i wr => ∃ (k : Nat) (f s : Int) (z : Nat), k ≤ js.length ∧ sh js (os.take k) = (f, s, z) ∧ a = .int .i64 f ∧ b = .int .i64 s ∧ c = .int .i64 z ∧ i = .int .i64 k ∧ wr = w2) (fun _ _ _ _ i _ => js.length - (intOf i).toNat)
    case atStart => exact ⟨0, 0, 0, 0, Nat.zero_le _, by simp [sh], rfl, rfl, rfl, rfl, rfl⟩
    case round =>
      obtain ⟨k, f, s, z, hk, hsh, rfl, rfl, rfl, rfl, rfl⟩ := hrel
      have hst := Hst.out k hk
      rw [hsh] at hst
      obtain ⟨t1, t2, t3, t4, t5⟩ := hst
      dsimp only at t1 t2 t3 t4 t5
      have T5 := hide t5
      have HS := hide hsh
      clear t5 hsh
      by_cases hlt : k < js.length
      · have hlt' : k < os.length := by omega
        obtain ⟨b', o', rfl, hx1', hx2', hcs'⟩ := Hc'.out (by omega)
        obtain ⟨h1, -⟩ := hcs' k hlt'
        obtain ⟨x, hx, hxm⟩ := F3.out k hlt'
        rw [hx] at h1
        obtain ⟨b, o, rfl, hx1, hx2, hcs⟩ := Hc.out (by omega)
        obtain ⟨⟨q1, q2, q3⟩, -⟩ := hcs x hxm
        rw [← hb12.cell (p := ⟨b, _, none⟩) (by simpa using by omega)] at q1 q2 q3
        clear hcs hcs' q2 q3
        obtain ⟨s1, s2⟩ := jvB_s (jsvB_at HV.out hxm)
        have hn := sh_next hlt' hx HS.out
        rw [jAt_lt hxm] at hn
        have hxI : (x : Int) < (js.length : Int) := by omega
        by_cases hq : f ≤ s
        · rw [if_pos hq] at hn
          have HN := hide hn
          clear hn hx
          go_wp2_with fail
          go_roundw
          case rel => exact ⟨k + 1, _, _, _, by omega, HN.out, rfl, rfl, rfl, by go_num, trivial⟩
          case measure => simp [intOf]; omega
        · rw [if_neg hq] at hn
          have HN := hide hn
          obtain ⟨c1, c2, -⟩ := bit_add z t4 x (by omega) (T5.out x (by omega) (Hbit.out k hlt' x hx))
          have hor := i64_or_nat z (2 ^ x) (by omega) (by omega)
          rw [c1] at hor
          have hw := shl1 (show x < 6 by omega)
          clear hn hx c1
          go_wp2_with fail
          go_roundw
          case rel => exact ⟨k + 1, _, _, _, by omega, HN.out, rfl, rfl, by first | exact congrArg _ hor | simpa using congrArg (Value.int IntKind.i64) hor, by go_num, trivial⟩
          case measure => simp [intOf]; omega
      · obtain rfl : k = js.length := by omega
        have HE := hide (show longR js = z by rw [HR.out, show os = os.take js.length by rw [List.take_of_length_le hol1], HS.out])
        go_wp2_with fail
        go_ret
        exact ⟨by rw [HE.out]; rfl, hb12⟩

set_option maxHeartbeats 800000 in
theorem twoLong_spec (v : Value) (js : List J) (lo hi : Nat) (w : World) (h : JobsAt lo hi w v js) :
    Calls Tryd.prog 46 #[v] w fun e w' => e = .returned (.int .i64 (longR js)) ∧ Below w.heap.size w w' := by
  obtain ⟨ao, cap, rfl, hlc, hcap, hhi, hc⟩ := id h
  have Hc := hide hc
  have HH := hide h
  clear hc h
  cases hv : jsvB js with
  | false =>
    have HR := hide (show longR js = -1 by simp [longR, hv])
    have HV := hide hv
    clear hv
    go_enter Tryd.func46, Tryd.ntmps46
    go_wp2_with fail
    refine (jsv_spec _ js lo hi _ HH.out).mono ?_
    rw [HV.out]
    rintro e w1 ⟨rfl, hb1⟩
    go_wp2_with fail
    go_ret
    exact ⟨by rw [HR.out]; rfl, hb1⟩
  | true =>
    have hl := jsvB_len hv
    have HR := hide (show longR js = (sh js (bk js 99)).2.2 by rw [bk_all (jsv_mem hv)]; simp [longR, hv])
    have HQ := hide (bq_ok (jsv_mem hv) hl)
    have HV := hide hv
    clear hv
    go_enter Tryd.func46, Tryd.ntmps46
    go_wp2_with fail
    refine (jsv_spec _ js lo hi _ HH.out).mono ?_
    rw [HV.out]
    rintro e w1 ⟨rfl, hb1⟩
    have hz := hb1.size
    go_wp2_with fail
    go_loopw [3, 5, 6, 7] (fun c s _ _ wr => ∃ (m t : Nat) (f g : Int) (z : Nat), m + t = 99 ∧ sh js (bk js m) = (f, g, z) ∧ c = .int .i64 z ∧ s = .int .i64 t ∧ Below w.heap.size w wr ∧ wr.rowIs w1.heap.size 3 2 (fun j => .int .i64 (if j = 0 then f else g))) (fun _ s _ _ _ => (intOf s).toNat)
    case atStart =>
      exact ⟨0, 99, 0, 0, 0, rfl, by simp [bk, sh], rfl, rfl, hb1.alloc hz _, World.rowIs_alloc _ _ _ _ (by intro i hi; simp at hi; match i, hi with | 0, _ => rfl | 1, _ => rfl)⟩
    case round =>
      obtain ⟨m, t, f0, g0, z0, hmt, hsh0, rfl, rfl, hb, hrow⟩ := hrel
      have Hr0 := hide hrow
      have HS0 := hide hsh0
      have HMT := hide hmt
      clear hrow hsh0 hmt
      by_cases ht : 0 < t
      · have hT : decide (0 < t) = true := by simp [ht]
        go_wp2_with fail
        go_loopw [3, 6, 7] (fun c i _ wr => ∃ (k : Nat) (f g : Int) (z : Nat), k ≤ js.length ∧ sh js (bk js m ++ bp js (99 - m) k) = (f, g, z) ∧ c = .int .i64 z ∧ i = .int .i64 k ∧ Below w.heap.size w wr ∧ wr.rowIs w1.heap.size 3 2 (fun j => .int .i64 (if j = 0 then f else g))) (fun _ i _ _ => js.length - (intOf i).toNat)
        case atStart => exact ⟨0, f0, g0, z0, Nat.zero_le _, by simpa [bp] using HS0.out, rfl, rfl, hb, Hr0.out⟩
        case round =>
          obtain ⟨k, f, g, z, hk, hsh, rfl, rfl, hbi, hrow⟩ := hrel
          have Hr := hide hrow
          have hst := HQ.out m k hk
          rw [hsh] at hst
          obtain ⟨t1, t2, t3, t4, t5⟩ := hst
          dsimp only at t1 t2 t3 t4 t5
          have T5 := hide t5
          have HS := hide hsh
          clear t5 hsh hrow
          by_cases hlt : k < js.length
          · have hgs1 : wr.cell? ⟨w1.heap.size, 0, none⟩ = some (.int .i64 f) := by simpa using Hr.out.cell (i := 0) (by omega)
            have hgs2 : wr.cell? ⟨w1.heap.size, 1, none⟩ = some (.int .i64 g) := by simpa using Hr.out.cell (i := 1) (by omega)
            have hf1 := Hr.out.frozen 0
            have hf2 := Hr.out.frozen 1
            obtain ⟨b, o, rfl, hx1, hx2, hcs⟩ := Hc.out (by omega)
            obtain ⟨⟨q1, q2, q3⟩, -⟩ := hcs k hlt
            rw [← hbi.cell (p := ⟨b, _, none⟩) (by simpa using by omega)] at q1 q2 q3
            clear hcs q2 q3
            obtain ⟨s1, s2⟩ := jvB_s (jsvB_at HV.out hlt)
            have hkI : (k : Int) < (js.length : Int) := by omega
            have HJ := hide (show jAt js k = js[k] from jAt_lt hlt)
            by_cases he : js[k].s = (t : Int)
            · have he' : (jAt js k).s = 99 - (m : Int) := by rw [HJ.out, he]; have := HMT.out; omega
              have hn := bq_hit he' HS.out
              rw [HJ.out, he] at hn
              obtain ⟨c1, c2, -⟩ := bit_add z t4 k (by omega) ((T5.out hlt).resolve_right fun hx => hx he')
              have hw := shl1 (show k < 6 by omega)
              have heB : (js[k].s == (t : Int)) = true := by simp [he]
              have heB2 : decide (js[k].s = (t : Int)) = true := by simp [he]
              have ht99 : t ≤ 99 := by have := HMT.out; omega
              clear he' c1
              by_cases hq : f ≤ g
              · rw [if_pos hq] at hn
                have HN := hide hn
                have hqB : decide (g < f) = false := by simp only [decide_eq_false_iff_not]; omega
                clear hn he
                go_wp2_with fail
                go_quiet (fail)
                go_wp2_with fail
                go_roundw
                case rel =>
                  refine ⟨k + 1, f + t, g, z, by omega, HN.out, rfl, by go_num, (below_drewN hbi _).setCell hz _, (Hr.out.set 0 _).congr fun i hi => ?_⟩
                  match i, hi with
                  | 0, _ => simp
                  | 1, _ => simp
                case measure => simp [intOf]; omega
              · rw [if_neg hq] at hn
                have HN := hide hn
                have hqB : decide (g < f) = true := by simp only [decide_eq_true_eq]; omega
                clear hn he
                go_wp2_with fail
                go_quiet (fail)
                go_wp2_with fail
                go_roundw
                case rel =>
                  refine ⟨k + 1, f, g + t, z + 2 ^ k, by omega, HN.out, by rw [wrap_bit c2], by go_num, (below_drewN hbi _).setCell hz _, (Hr.out.set 1 _).congr fun i hi => ?_⟩
                  match i, hi with
                  | 0, _ => simp
                  | 1, _ => simp
                case measure => simp [intOf]; omega
            · have he' : (jAt js k).s ≠ 99 - (m : Int) := by rw [HJ.out]; have := HMT.out; omega
              have HN := hide ((congrArg (sh js) (bq_miss he')).trans HS.out)
              have heB : (js[k].s == (t : Int)) = false := by simp [he]
              have heB2 : decide (js[k].s = (t : Int)) = false := by simp [he]
              clear he he'
              by_cases hq : f ≤ g
              · have hqB : decide (g < f) = false := by simp only [decide_eq_false_iff_not]; omega
                go_wp2_with fail
                go_quiet (fail)
                go_wp2_with fail
                go_roundw
                case rel => exact ⟨k + 1, f, g, z, by omega, HN.out, rfl, by go_num, below_drewN hbi _, Hr.out⟩
                case measure => simp [intOf]; omega
              · have hqB : decide (g < f) = true := by simp only [decide_eq_true_eq]; omega
                go_wp2_with fail
                go_quiet (fail)
                go_wp2_with fail
                go_roundw
                case rel => exact ⟨k + 1, f, g, z, by omega, HN.out, rfl, by go_num, below_drewN hbi _, Hr.out⟩
                case measure => simp [intOf]; omega
          · obtain rfl : k = js.length := by omega
            have HS' := hide (show sh js (bk js (m + 1)) = (f, g, z) from HS.out)
            have ht99 : t ≤ 99 := by have := HMT.out; omega
            have HMT' := hide (show (m + 1) + (t - 1) = 99 by have := HMT.out; omega)
            go_wp2_with fail
            go_roundw
            case rel => exact ⟨m + 1, t - 1, f, g, z, HMT'.out, HS'.out, rfl, by refine congrArg _ ?_; omega, hbi, Hr.out⟩
            case measure => simp only [intOf]; omega
      · have hT : decide (0 < t) = false := by simp; omega
        obtain rfl : t = 0 := by omega
        obtain rfl : m = 99 := by have := HMT.out; omega
        have HE := hide (show longR js = z0 by rw [HR.out, HS0.out])
        go_wp2_with fail
        go_ret
        exact ⟨by rw [HE.out]; rfl, hb⟩
end Go.Proofs.YtfjemnjdkniibaaDoor
