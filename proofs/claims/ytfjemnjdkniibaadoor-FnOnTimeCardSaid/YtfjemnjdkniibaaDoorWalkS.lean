/-
  The walk over the program's OnTime.
-/
import Derived.Test.YtfjemnjdkniibaaDoorWalkR
import Derived.Test.YtfjemnjdkniibaaDoorPlainOnTime
namespace Go.Proofs.YtfjemnjdkniibaaDoor
open Go.RowKit

def lenV : Value → Nat
  | .slice _ n _ => n
  | _ => 0

theorem OwnR.shape {base : Nat} {w : World} {v : Value} {xs : List Int} (h : OwnR base w v xs) : ∃ ao cap, v = .slice ao xs.length cap := by
  rcases h with ⟨rfl, rfl⟩ | ⟨⟨g, cap, rfl⟩, -⟩
  · exact ⟨none, 0, rfl⟩
  · exact ⟨_, cap, rfl⟩

theorem OwnR.block {base : Nat} {w : World} {v : Value} {xs : List Int} (h : OwnR base w v xs) : ∀ k, v.ownBlock = some k → base ≤ k := by
  intro k hk
  rcases h with ⟨rfl, -⟩ | h
  · simp [Value.ownBlock] at hk
  · obtain ⟨⟨g, cap, rfl⟩, -⟩ := id h
    obtain ⟨f, -, -, hb, -⟩ := h.row
    simp [Value.ownBlock] at hk
    omega

set_option maxHeartbeats 1600000 in
theorem onTime_impl (v : Value) (js : List J) (lo hi : Nat) (w : World) (h : JobsAt lo hi w v js) :
    Calls Tryd.prog 62 #[v] w fun e w' => ∃ r, e = .returned r ∧ IntsAt w.heap.size w'.heap.size w' r (onTimeR js) ∧ Below w.heap.size w w' := by
  obtain ⟨ao, cap, rfl, hlc, hcap, hhi, hc⟩ := id h
  have Hc := hide hc
  have HH := hide h
  clear hc h
  go_enter Tryd.func62, Tryd.ntmps62
  go_wp2_with fail
  refine (dueOrder_impl _ js lo hi _ HH.out).mono ?_
  rintro e w1 ⟨r, rfl, hr, hb1⟩
  obtain ⟨os, hos⟩ : ∃ os, orderR kDue js = os := ⟨_, rfl⟩
  rw [hos] at hr
  have HK := hide (show keptR js = (ot js os).1 by rw [← hos]; exact kept_eq js)
  have HO := hide hos
  clear hos
  obtain ⟨ao1, cap1, rfl, hlc1, hcap1, hhi1, hc1⟩ := hr
  have Hc1 := hide hc1
  clear hc1
  have hz1 := hb1.size
  go_wp2_with fail
  go_loopw [3, 4, 6, 7, 8, 9, 13] (fun kv s _ _ _ _ i wr => ∃ k : Nat, k ≤ os.length ∧ i = .int .i64 k ∧ s = .int .i64 (ot js (os.take k)).2 ∧ Below w1.heap.size w1 wr ∧ OwnR w1.heap.size wr kv (ot js (os.take k)).1) (fun _ _ _ _ _ _ i _ => os.length - (intOf i).toNat)
  case atStart => exact ⟨0, Nat.zero_le _, rfl, by simp [ot], Below.refl _ _, .inl ⟨rfl, by simp [ot]⟩⟩
  case round =>
    obtain ⟨k, hk, rfl, rfl, hb, hown⟩ := hrel
    have Ho := hide hown
    clear hown
    by_cases hlt : k < os.length
    · have hv : jsvB js = true := by
        have := HO.out
        unfold orderR at this
        split at this
        · assumption
        · subst this; exact absurd hlt (Nat.not_lt_zero _)
      have hl := jsvB_len hv
      have hos : os = soTo kDue js js.length := by rw [← HO.out]; simp [orderR, hv]
      have hf := due_facts (jsv_mem hv) k
      rw [← hos] at hf
      obtain ⟨f1, f2, f3, f4⟩ := hf
      obtain ⟨x, hx, hxm⟩ : ∃ x : Nat, os[k] = x ∧ x < js.length := by
        have := f4 os[k] (List.getElem?_eq_getElem hlt)
        have g1 := this.1.1
        have g2 := this.1.2
        exact ⟨os[k].toNat, by omega, by omega⟩
      obtain ⟨-, f5, f6⟩ := f4 x (by rw [List.getElem?_eq_getElem hlt, hx])
      obtain ⟨st, hst⟩ : ∃ st, ot js (os.take k) = st := ⟨_, rfl⟩
      rw [hst] at f3 Ho ⊢
      have HSt := hide hst
      have HN := hide (show ot js (os.take (k + 1)) = otStep js st x by rw [List.take_succ_eq_append_getElem hlt, ot_snoc, hst, hx])
      obtain ⟨t1, t2, t3, t4⟩ := f3
      have hin : ∀ a ∈ st.1, ix js a := fun a ha => f1 a (t1 a ha)
      have hfew := few (n := js.length) t2 hin
      have hsb := spns_bd (jsv_mem hv) st.1 hin
      rw [← t3] at hsb
      obtain ⟨hsb1, hsb2⟩ := hsb
      have hixx : ix js (x : Int) := ⟨by omega, by omega⟩
      have T := hide (cut_ok (js := js) (st := st) (a := (x : Int)) hin hixx t3)
      have T4 := hide t4
      have F5 := hide f5
      have Hin := hide hin
      have HV := hide hv
      clear f1 f2 f4 f5 f6 t1 t2 t3 t4 hst hos hin
      obtain ⟨s1, s2⟩ := jvB_s (jsvB_at HV.out hxm)
      obtain ⟨d1, d2⟩ := jvB_d (jsvB_at HV.out hxm)
      obtain ⟨b1, o1, rfl, hy1, hy2, hcs1⟩ := Hc1.out (by omega)
      obtain ⟨r1, -⟩ := hcs1 k hlt
      rw [hx, ← hb.cell (p := ⟨b1, _, none⟩) (by simpa using by omega)] at r1
      obtain ⟨b, o, rfl, hx1, hx2, hcs⟩ := Hc.out (by omega)
      obtain ⟨⟨p1, p2, p3⟩, -⟩ := hcs x hxm
      have hbw := Below.step hb1 hb (Nat.le_refl _)
      have Hcs := hide hcs
      clear hcs hcs1 hx p3
      have hxI : (x : Int) < (js.length : Int) := by omega
      have hzr : w1.heap.size ≤ wr.heap.size := hb.size
      obtain ⟨i0, hi0, hz0, hi1, hi2⟩ := info_parts info_int
      have hnew := OwnI.new w1.heap.size wr [(x : Int)] hzr (by simp)
      have hoy := OwnR.below Ho.out ((Below.refl wr.heap.size wr).alloc (Nat.le_refl _) (.cells #[.int .i64 (x : Int)] 3)) (Nat.le_refl _)
      obtain ⟨aok, capk, rfl⟩ := Ho.out.shape
      have Hnew := hide hnew
      have Hoy := hide hoy
      clear hnew hoy
      go_wp2_with (at_builtin; refine wpList_append_own _ rfl _ _ 36 rfl w1.heap.size 3 i0 (.int .i64 0) 1 8 Tryd.underlying36 hi0 hz0 hi1 hi2 rfl (by decide) _ _ _ rfl Hoy.out.owns ⟨wr.heap.size, 0, none⟩ 1 1 [.int .i64 (x : Int)] rfl ?c1 ?c2 ?c3 ?c4 ?c5 ?c6 ?_)
      case c1 => rfl
      case c2 => exact Hnew.out.2.cells rfl
      case c3 =>
        intro u hu
        obtain rfl := List.mem_singleton.1 hu
        rfl
      case c4 => unfold maxLen; omega
      case c5 => omega
      case c6 => simp; omega
      intro v' w' hown' hgrow hne
      have hB1 : Below w1.heap.size w1 w' := (hb.alloc hzr _).grown hgrow (by simp; omega) (fun k hk => Hoy.out.block k hk)
      have hown2 : OwnI w1.heap.size w' v' (st.1 ++ [(x : Int)]) := OwnI.mk hown' (by simp) (by simp) hne
      have hbw2 : Below w.heap.size w w' := Below.step hb1 hB1 (Nat.le_refl _)
      obtain ⟨pre, hpre⟩ : ∃ pre, otPre js st x = pre := ⟨_, rfl⟩
      have hpre1 : pre.1 = st.1 ++ [(x : Int)] := by rw [← hpre]; rfl
      have hpre2 : pre.2 = st.2 + js[x].s := by rw [← hpre]; simp only [otPre, spn]; rw [jAt_lt hxm]
      have hdue : due js x = js[x].d := by simp only [due]; rw [jAt_lt hxm]
      rw [← hpre1] at hown2
      have Hown2 := hide hown2
      have Hpre := hide hpre
      have Hpre1 := hide hpre1
      have Hpre2 := hide hpre2
      have Hdue := hide hdue
      rw [← hbw2.cell (p := ⟨b, _, none⟩) (by simpa using by omega)] at p1 p2
      clear hown' hgrow hne hown2 hpre hpre1 hpre2 hdue r1
      have hcut1 : (otCut js pre).2 ≤ js[x].d := by
        have h1 := T.out.2.1
        have h2 := T4.out x hixx F5.out
        rw [Hpre.out] at h1
        rw [Hdue.out] at h2
        omega
      go_wp2_with fail
      go_loopw [3, 4, 7, 8, 9] (fun kv s _ _ _ wx => ∃ su : OT, (su = pre ∨ (su = otCut js pre ∧ js[x].d < pre.2)) ∧ s = .int .i64 su.2 ∧ Below w1.heap.size w1 wx ∧ OwnR w1.heap.size wx kv su.1) (fun kv _ _ _ _ _ => lenV kv)
      case atStart => exact ⟨pre, .inl rfl, by rw [Hpre2.out], hB1, .inr Hown2.out⟩
      case round =>
        obtain ⟨su, hsu, rfl, hbx, hownx⟩ := hrel
        have hbwx : Below w.heap.size w wr := Below.step hb1 hbx (Nat.le_refl _)
        rw [hbw2.cell (p := ⟨b, _, none⟩) (by simpa using by omega), ← hbwx.cell (p := ⟨b, _, none⟩) (by simpa using by omega)] at p1 p2
        by_cases hq : js[x].d < su.2
        · obtain rfl : su = pre := by
            rcases hsu with h | ⟨h, -⟩
            · exact h
            · rw [h] at hq; omega
          have hqB : decide (js[x].d < su.2) = true := by simp [hq]
          have hpl : su.1.length = st.1.length + 1 := by rw [Hpre1.out]; simp
          have hpin : ∀ y ∈ su.1, ix js y := by
            rw [Hpre1.out]
            intro y hy
            rcases List.mem_append.1 hy with h | h
            · exact Hin.out y h
            · rw [List.mem_singleton] at h; rw [h]; exact hixx
          have hat : ∀ j (hj : j < su.1.length), ∃ y : Nat, su.1[j] = y ∧ y < js.length := fun j hj => by
            have := hpin _ (List.getElem_mem hj)
            have g1 := this.1
            have g2 := this.2
            exact ⟨su.1[j].toNat, by omega, by omega⟩
          rcases hownx with ⟨-, h0⟩ | hownI
          · rw [h0] at hpl; simp at hpl
          obtain ⟨⟨g, capg, rfl⟩, -⟩ := id hownI
          have HoI := hide hownI
          have Hat := hide hat
          have HQ := hide hq
          obtain ⟨aog, capg', eg, hlg, hcg, -, hckg⟩ := hownI.at
          simp only [Value.slice.injEq] at eg
          obtain ⟨rfl, -, rfl⟩ := eg
          have Hck := hide hckg
          have hpl1 : su.1.length ≤ 7 := by omega
          have hpl2 : 0 < su.1.length := by omega
          clear hq hpin hat hownI hckg hsu hpl
          go_wp2_with fail
          go_loopw [7, 8, 9, 37] (fun l _ _ i wy => ∃ j : Nat, j ≤ su.1.length ∧ i = .int .i64 j ∧ l = .int .i64 (worstTo js su.1 j) ∧ Below wr.heap.size wr wy) (fun _ _ _ i _ => su.1.length - (intOf i).toNat)
          case atStart => exact ⟨0, Nat.zero_le _, rfl, rfl, Below.refl _ _⟩
          case round =>
            obtain ⟨j, hj, rfl, hlw, hby⟩ := hrel
            have hWlt := worstTo_le js su.1 j su.1.length hj hpl2
            obtain ⟨W, hW⟩ : ∃ W, worstTo js su.1 j = W := ⟨_, rfl⟩
            rw [hW] at hlw hWlt
            subst hlw
            have HW := hide hW
            clear hW
            obtain ⟨b', o', e', hg1, hg2, hcg⟩ := Hck.out hpl2
            simp only [Option.some.injEq, Addr.mk.injEq] at e'
            obtain ⟨rfl, rfl, -⟩ := e'
            obtain ⟨y, hy, hym⟩ := Hat.out W hWlt
            obtain ⟨k1, -⟩ := hcg W hWlt
            obtain ⟨⟨q1, q2, q3⟩, -⟩ := Hcs.out y hym
            have hgy : su.1.getD W 0 = (y : Int) := by rw [getD_lt hWlt, hy]
            have hbwy : Below w.heap.size w wr := Below.step hbwx hby (Nat.le_refl _)
            rw [hy, Nat.zero_add, ← hby.cell (p := ⟨g, _, none⟩) (by simpa using by omega)] at k1
            rw [← hbwy.cell (p := ⟨b, _, none⟩) (by simpa using by omega)] at q1
            have hyI : (y : Int) < (js.length : Int) := by omega
            have Hgy := hide hgy
            clear hy q2 q3 hgy
            by_cases hjl : j < su.1.length
            · obtain ⟨z, hz, hzm⟩ := Hat.out j hjl
              obtain ⟨k2, -⟩ := hcg j hjl
              obtain ⟨⟨m1, m2, m3⟩, -⟩ := Hcs.out z hzm
              have hgz : su.1.getD j 0 = (z : Int) := by rw [getD_lt hjl, hz]
              rw [hz, Nat.zero_add, ← hby.cell (p := ⟨g, _, none⟩) (by simpa using by omega)] at k2
              rw [← hbwy.cell (p := ⟨b, _, none⟩) (by simpa using by omega)] at m1
              have hzI : (z : Int) < (js.length : Int) := by omega
              clear hz m2 m3 hcg
              have hsp1 : spn js (y : Int) = js[y].s := by simp only [spn]; rw [jAt_lt hym]
              have hsp2 : spn js (z : Int) = js[z].s := by simp only [spn]; rw [jAt_lt hzm]
              by_cases hge : js[y].s ≤ js[z].s
              · have hgB : decide (js[y].s ≤ js[z].s) = true := by simp [hge]
                have HNX := hide (show worstTo js su.1 (j + 1) = j by simp only [worstTo, HW.out]; rw [Hgy.out, hgz, hsp1, hsp2, if_pos hge])
                clear hge hgz hsp1 hsp2
                go_wp2_with fail
                go_quiet (fail)
                go_wp2_with fail
                go_roundw
                case rel => exact ⟨j + 1, by omega, by go_num, by rw [HNX.out], below_drewN hby _⟩
                case measure => simp [intOf]; omega
              · have hgB : decide (js[y].s ≤ js[z].s) = false := by simp only [decide_eq_false_iff_not]; exact hge
                have HNX := hide (show worstTo js su.1 (j + 1) = W by simp only [worstTo, HW.out]; rw [Hgy.out, hgz, hsp1, hsp2, if_neg hge])
                clear hge hgz hsp1 hsp2
                go_wp2_with fail
                go_quiet (fail)
                go_wp2_with fail
                go_roundw
                case rel => exact ⟨j + 1, by omega, by go_num, by rw [HNX.out], below_drewN hby _⟩
                case measure => simp [intOf]; omega
            · obtain rfl : j = su.1.length := by omega
              obtain ⟨c1, c2⟩ := jvB_s (jsvB_at HV.out hym)
              have hoy := OwnI.below HoI.out hby (Nat.le_refl _)
              have HD := hide (delete_any w1.heap.size wr g capg W su.1 hoy hWlt)
              have HCut := hide (show otCut js su = (su.1.eraseIdx W, su.2 - js[y].s) by
                unfold otCut worst
                rw [HW.out, Hgy.out]
                simp only [spn]; rw [jAt_lt hym])
              clear hoy hcg
              go_wp2_with fail
              refine HD.out.mono ?_
              rintro e w3 ⟨rfl, ho3, hown3⟩
              have Hown3 := hide hown3
              clear hown3
              have hs2 := Hpre2.out
              have hwr : wrap64 (su.2 - js[y].s) = su.2 - js[y].s := by unfold wrap64; omega
              have HWR := hide hwr
              clear hs2 hwr
              have hby1 : Below w1.heap.size w1 wr := Below.step hbx hby (Nat.le_refl _)
              have hby2 : Below w1.heap.size w1 w3 := Below.trans hby1 (ho3.below hg1 hby1.size)
              go_wp2_with fail
              refine ⟨⟨otCut js su, .inr ⟨rfl, HQ.out⟩, by rw [HCut.out, HWR.out], hby2, .inr (by rw [HCut.out]; exact Hown3.out)⟩, ?_⟩
              show su.1.length - 1 < su.1.length
              omega
        · have hqB : decide (js[x].d < su.2) = false := by simp; omega
          have HF := hide (show ot js (os.take (k + 1)) = su by
            rw [HN.out]
            unfold otStep
            rw [Hpre.out, Hdue.out]
            rcases hsu with h | ⟨h, h2⟩
            · rw [if_neg (by rw [← h]; exact hq), h]
            · rw [if_pos h2, h])
          have Ho2 := hide hownx
          clear hsu hownx hq
          go_wp2_with fail
          exact ⟨⟨k + 1, by omega, by go_num, by rw [HF.out], hbx, by rw [HF.out]; exact Ho2.out⟩, by simp [intOf]; omega⟩
    · obtain rfl : k = os.length := by omega
      rw [List.take_length, ← HK.out] at Ho
      obtain ⟨aok, capk, rfl⟩ := Ho.out.shape
      have hkin : ∀ a ∈ keptR js, ix js a := by
        unfold keptR
        split
        · rename_i hv
          have := due_facts (jsv_mem hv) js.length
          rw [List.take_of_length_le (by rw [soTo_len]; omega)] at this
          exact fun a ha => this.1 a (this.2.2.1.sub a ha)
        · simp
      have hknd : (keptR js).Nodup := by
        unfold keptR
        split
        · rename_i hv
          have := due_facts (jsv_mem hv) js.length
          rw [List.take_of_length_le (by rw [soTo_len]; omega)] at this
          exact this.2.2.1.nodup
        · simp
      have hk6 : (keptR js).length ≤ 6 := by
        have h1 := few (n := js.length) hknd hkin
        by_cases hv : jsvB js = true
        · have := jsvB_len hv; omega
        · simp [keptR, hv]
      have HS := hide (sort_own w1.heap.size _ (keptR js) wr Ho.out hk6 hb.size)
      have HU := hide (fun (ys : List Int) (h1 : ys.Perm (keptR js)) (h2 : ys.Pairwise (· ≤ ·)) => asc_unique (n := js.length) hkin hknd h1 h2)
      clear hkin hknd
      go_wp2_with fail
      refine HS.out.mono ?_
      rintro e w2 ⟨rfl, hb2, ys, hp, hs, ho2⟩
      have hys := HU.out ys hp hs
      have hle := hp.length_eq
      have HP := hide hp
      have HY := hide hys
      have HO2 := hide ho2
      clear hp hs hys ho2
      go_wp2_with fail
      go_ret
      have hbr : Below w1.heap.size w1 w2 := Below.trans hb hb2
      refine ⟨_, rfl, ?_, Below.step hb1 hbr (Nat.le_refl _)⟩
      have := (HO2.out.at hbr.size).mono (lo' := w.heap.size) hz1 (Nat.le_refl _) (Nat.le_refl _)
      rw [show onTimeR js = ys from HY.out.symm]
      exact this
end Go.Proofs.YtfjemnjdkniibaaDoor
