/-
  The walk over the specification's OnTime.
-/
import Derived.Test.YtfjemnjdkniibaaDoorWalkS
namespace Go.Proofs.YtfjemnjdkniibaaDoor
open Go.RowKit

/-- append to a slice of the call's own, as a step of a region that draws. -/
theorem step_append_own {P : Program} {ops : Array Oper} {o : Oper} {a : Act} {w : World} {K : Act → World → Prop} {Q : Exit → Act → World → Prop} {E : Prop}
    (hg : o.guard = none) (s x : Operand) (t : TypeId) (hop : o.op = Op.call { callee := Callee.builtin Builtin.append, args := #[s, x], argTypes := #[t, t] })
    (e : TypeId) (i : TypeInfo) (z : Value) (size bytes : Nat) (h1 : P.underlying t = some (.slice e)) (h2 : P.info? e = some i) (h3 : i.zero = some z) (h4 : i.size = size) (h5 : i.bytes = bytes) (h6 : z.cells.size = size) (h7 : 0 < size)
    (base : Nat) (v : Value) (n : Nat) (olds : List Value) (hs : a.eval s = v) (hown : w.ownsRow base e size v n olds)
    (ad : Addr) (m c : Nat) (news : List Value) (hx : a.eval x = .slice (some ad) m c) (hn : news.length = m * size) (hc : ∀ j u, news[j]? = some u → w.cell? (ad.add j) = some u) (h1c : ∀ u ∈ news, u.oneCell' = true)
    (b1 : n + m ≤ maxLen) (b2 : (n + m) * bytes ≤ 140737488355328) (hb : base ≤ w.heap.size)
    (hK : ∀ v' w', w'.ownsRow base e size v' (n + m) (olds ++ news) → w.grownBy w' v.ownBlock → K (a.put o.dst v') w') :
    if Region.wanted o (yielded ops a.tmps) = true then Oper.wp P o a w K Q else E := by
  have hw : Region.wanted o (yielded ops a.tmps) = true := by simp [Region.wanted, hg]
  rw [if_pos hw]
  obtain ⟨v', w', hrun, r1, r2, _⟩ := run_append_own (P := P) w base t o.type e i z size bytes h1 h2 h3 h4 h5 h6 h7 v n olds hown ad m c news hn hc h1c b1 b2 hb
  unfold Oper.wp
  simp [execOp, hop, resolve, invoke, builtin, hs, hx, hrun, Result.andThen]
  exact hK v' w' r1 r2

theorem OwnR.of_owns {base : Nat} {w : World} {v : Value} {xs : List Int} {n : Nat} {cs : List Value} (h : w.ownsRow base 3 1 v n cs) (hn : n = xs.length) (hc : cs = xs.map (Value.int .i64)) : OwnR base w v xs := by
  subst hn hc
  rcases id h.2 with ⟨e, h0⟩ | ⟨g, cap, cur, e, _⟩
  · exact .inl ⟨e, List.length_eq_zero_iff.1 h0⟩
  · exact .inr ⟨⟨g, cap, e⟩, h⟩

/-- A slice of the call's own at base or behind it, or an empty one without room. -/
def KeptAt (base : Nat) (w : World) (v : Value) (xs : List Int) : Prop := OwnR base w v xs ∨ (xs = [] ∧ ∃ g, v = .slice (some ⟨g, 0, none⟩) 0 0)
theorem KeptAt.below {base B : Nat} {w w' : World} {v : Value} {xs : List Int} (h : KeptAt base w v xs) (hb : Below B w w') (hB : w.heap.size ≤ B) : KeptAt base w' v xs :=
  h.imp (fun h => h.below hb hB) id
theorem KeptAt.shape {base : Nat} {w : World} {v : Value} {xs : List Int} (h : KeptAt base w v xs) : ∃ ao cap, v = .slice ao xs.length cap := by
  rcases h with h | ⟨rfl, g, rfl⟩
  · exact h.shape
  · exact ⟨_, 0, rfl⟩
theorem KeptAt.at {base : Nat} {w : World} {v : Value} {xs : List Int} (h : KeptAt base w v xs) (hb : base ≤ w.heap.size) : IntsAt base w.heap.size w v xs := by
  rcases h with h | ⟨rfl, g, rfl⟩
  · exact h.at hb
  · exact ⟨_, 0, rfl, by simp, by simp, Nat.le_refl _, fun h => absurd h (by simp)⟩

theorem wpList_append_kept {w : World} {ops : Array Oper} {rest : List Oper} {o : Oper} {a : Act} {Q : Exit → Act → World → Prop} (hgd : o.guard = none) (s x : Operand)
    (ho : o.op = .call { callee := .builtin .append, args := #[s, x], argTypes := #[36, 36] })
    (base : Nat) (v : Value) (xs : List Int) (hs : a.eval s = v) (hk : KeptAt base w v xs) (ad : Addr) (c : Nat) (y : Int) (hx : a.eval x = .slice (some ad) 1 c)
    (hc : ∀ j u, [Value.int .i64 y][j]? = some u → w.cell? (ad.add j) = some u) (hlen : xs.length ≤ 1048576) (hb : base ≤ w.heap.size)
    (hK : ∀ v' w', OwnI base w' v' (xs ++ [y]) → (∀ B a, B ≤ base → Below B a w → Below B a w') → wpList Tryd.prog ops Q rest (a.put o.dst v') w') : wpList Tryd.prog ops Q (o :: rest) a w := by
  obtain ⟨i0, hi0, hz0, hi1, hi2⟩ := info_parts info_int
  have h1 : ∀ u ∈ [Value.int .i64 y], u.oneCell' = true := by
    intro u hu
    obtain rfl := List.mem_singleton.1 hu
    rfl
  rcases hk with hk | ⟨rfl, g, rfl⟩
  · refine wpList_append_own w hgd s x 36 ho base 3 i0 (.int .i64 0) 1 8 Tryd.underlying36 hi0 hz0 hi1 hi2 rfl (by decide) v xs.length _ hs hk.owns ad 1 c [.int .i64 y] hx rfl hc h1 (by unfold maxLen; omega) (by omega) hb ?_
    intro v' w' hown hgrow hne
    exact hK v' w' (OwnI.mk hown (by simp) (by simp) (by rw [Ne, hne]; simp)) fun B a hB ha => ha.grown hgrow (by omega) fun k hk' => Nat.le_trans hB (hk.block k hk')
  · refine wpList_append_grows w hgd s x 36 ho 3 i0 (.int .i64 0) 1 8 Tryd.underlying36 hi0 hz0 hi1 hi2 rfl (by decide) (some ⟨g, 0, none⟩) 0 0 [] hs (by simp) rfl (by simp) ad 1 c [.int .i64 y] hx rfl hc h1 (by omega) (by unfold maxLen; omega) (by omega) ?_
    intro v' w' hown hgrow
    refine hK v' w' ?_ fun B a hB ha => ha.grown hgrow (by omega) (by simp)
    have h2 : w'.ownsRow base 3 1 v' 1 [.int .i64 y] := by
      refine ⟨by simp, ?_⟩
      rcases hown.2 with ⟨_, h0⟩ | ⟨g', cap', cur, e, h0, r⟩
      · omega
      · exact .inr ⟨g', cap', cur, e, Nat.le_trans hb h0, r⟩
    refine OwnI.mk h2 (by simp) (by simp) ?_
    rcases hown.2 with ⟨_, h0⟩ | ⟨g', cap', cur, e, h0, r⟩
    · omega
    · rw [e]; simp

theorem OwnR.mono {base base' : Nat} {w : World} {v : Value} {xs : List Int} (h : OwnR base w v xs) (hb : base' ≤ base) : OwnR base' w v xs := by
  rcases h with h | ⟨h1, h2, h3⟩
  · exact .inl h
  · refine .inr ⟨h1, h2, ?_⟩
    rcases h3 with h3 | ⟨g, cap, cur, e, h0, r⟩
    · exact .inl h3
    · exact .inr ⟨g, cap, cur, e, Nat.le_trans hb h0, r⟩

set_option maxHeartbeats 1600000 in
theorem onTime_spec (v : Value) (js : List J) (lo hi : Nat) (w : World) (h : JobsAt lo hi w v js) :
    Calls Tryd.prog 63 #[v] w fun e w' => ∃ r, e = .returned r ∧ IntsAt w.heap.size w'.heap.size w' r (onTimeR js) ∧ Below w.heap.size w w' := by
  obtain ⟨ao, cap, rfl, hlc, hcap, hhi, hc⟩ := id h
  have Hc := hide hc
  have HH := hide h
  clear hc h
  go_enter Tryd.func63, Tryd.ntmps63
  go_wp2_with fail
  obtain ⟨w0, hw0⟩ : ∃ w0, w0 = w.alloc (Obj.cells #[] 3) := ⟨_, rfl⟩
  rw [← hw0]
  have hb0 : Below w.heap.size w w0 := by rw [hw0]; exact (Below.refl _ _).alloc (Nat.le_refl _) _
  have hs0 : w0.heap.size = w.heap.size + 1 := by rw [hw0]; simp
  have hk0 : OwnI w.heap.size w0 (.slice (some ⟨w.heap.size, 0, none⟩) 0 0) [] := by rw [hw0]; exact OwnI.new w.heap.size w [] (Nat.le_refl _) (by simp)
  have HK0 := hide hk0
  have H0 := hide (HH.out.below hb0)
  clear hw0 hk0
  refine (dueOrder_spec _ js lo hi _ H0.out).mono ?_
  rintro e w1 ⟨r, rfl, hr, hb1⟩
  obtain ⟨os, hos⟩ : ∃ os, orderR kDue js = os := ⟨_, rfl⟩
  rw [hos] at hr
  have HK := hide (show keptR js = (ot js os).1 by rw [← hos]; exact kept_eq js)
  have HO := hide hos
  clear hos
  obtain ⟨ao1, cap1, rfl, hlc1, hcap1, hhi1, hc1⟩ := hr
  have Hc1 := hide hc1
  clear hc1
  have hb01 : Below w.heap.size w w1 := Below.step hb0 hb1 (Nat.le_refl _)
  have hz1 := hb1.size
  go_wp2_with fail
  go_loopw [3, 5, 6, 7, 8] (fun kv s i _ _ wr => ∃ k : Nat, k ≤ os.length ∧ i = .int .i64 k ∧ s = .int .i64 (ot js (os.take k)).2 ∧ Below w1.heap.size w1 wr ∧ KeptAt w1.heap.size wr kv (ot js (os.take k)).1) (fun _ _ i _ _ _ => os.length - (intOf i).toNat)
  case atStart => exact ⟨0, Nat.zero_le _, rfl, by simp [ot], Below.refl _ _, .inr ⟨by simp [ot], _, rfl⟩⟩
  case round =>
    obtain ⟨k, hk, rfl, rfl, hb, hown⟩ := hrel
    have Ho := hide hown
    clear hown
    by_cases hlt : k < os.length
    · have hv : jsvB js = true := by
        have := HO.out
        unfold orderR at this
        split at this
        · assumption
        · subst this; exact absurd hlt (Nat.not_lt_zero _)
      have hl := jsvB_len hv
      have hos : os = soTo kDue js js.length := by rw [← HO.out]; simp [orderR, hv]
      have hf := due_facts (jsv_mem hv) k
      rw [← hos] at hf
      obtain ⟨f1, f2, f3, f4⟩ := hf
      obtain ⟨x, hx, hxm⟩ : ∃ x : Nat, os[k] = x ∧ x < js.length := by
        have := f4 os[k] (List.getElem?_eq_getElem hlt)
        have g1 := this.1.1
        have g2 := this.1.2
        exact ⟨os[k].toNat, by omega, by omega⟩
      obtain ⟨st, hst⟩ : ∃ st, ot js (os.take k) = st := ⟨_, rfl⟩
      rw [hst] at f3 Ho ⊢
      have HSt := hide hst
      have HN := hide (show ot js (os.take (k + 1)) = otStep js st x by rw [List.take_succ_eq_append_getElem hlt, ot_snoc, hst, hx])
      obtain ⟨t1, t2, t3, t4⟩ := f3
      have hin : ∀ a ∈ st.1, ix js a := fun a ha => f1 a (t1 a ha)
      have hfew := few (n := js.length) t2 hin
      have hsb := spns_bd (jsv_mem hv) st.1 hin
      rw [← t3] at hsb
      obtain ⟨hsb1, hsb2⟩ := hsb
      have hixx : ix js (x : Int) := ⟨by omega, by omega⟩
      have Hin := hide hin
      have HV := hide hv
      clear f1 f2 f4 t1 t2 t3 t4 hst hos hin
      obtain ⟨s1, s2⟩ := jvB_s (jsvB_at HV.out hxm)
      obtain ⟨d1, d2⟩ := jvB_d (jsvB_at HV.out hxm)
      obtain ⟨b1, o1, rfl, hy1, hy2, hcs1⟩ := Hc1.out (by omega)
      obtain ⟨r1, -⟩ := hcs1 k hlt
      rw [hx, ← hb.cell (p := ⟨b1, _, none⟩) (by simpa using by omega)] at r1
      obtain ⟨b, o, rfl, hx1, hx2, hcs⟩ := Hc.out (by omega)
      obtain ⟨⟨p1, p2, p3⟩, -⟩ := hcs x hxm
      have hbw := Below.step hb01 hb (Nat.le_refl _)
      have Hcs := hide hcs
      clear hcs hcs1 hx p3
      have hxI : (x : Int) < (js.length : Int) := by omega
      have hkI : (k : Int) < (os.length : Int) := by omega
      have hzr : w1.heap.size ≤ wr.heap.size := hb.size
      have hnew := OwnI.new w1.heap.size wr [(x : Int)] hzr (by simp)
      have hoy := KeptAt.below Ho.out ((Below.refl wr.heap.size wr).alloc (Nat.le_refl _) (.cells #[.int .i64 (x : Int)] 3)) (Nat.le_refl _)
      obtain ⟨aok, capk, rfl⟩ := Ho.out.shape
      have Hnew := hide hnew
      have Hoy := hide hoy
      clear hnew hoy
      go_wp2_with (at_builtin; refine wpList_append_kept rfl _ _ rfl w1.heap.size _ st.1 rfl Hoy.out ⟨wr.heap.size, 0, none⟩ 1 (x : Int) rfl ?c2 ?c4 ?c6 ?_)
      case c2 => exact Hnew.out.2.cells rfl
      case c4 => omega
      case c6 => simp; omega
      intro v' w' hown2 hbel
      have hB1 : Below w1.heap.size w1 w' := hbel _ _ (Nat.le_refl _) (hb.alloc hzr _)
      have hbw2 : Below w.heap.size w w' := Below.step hb01 hB1 (Nat.le_refl _)
      obtain ⟨pre, hpre⟩ : ∃ pre, otPre js st x = pre := ⟨_, rfl⟩
      have hpre1 : pre.1 = st.1 ++ [(x : Int)] := by rw [← hpre]; rfl
      have hpre2 : pre.2 = st.2 + js[x].s := by rw [← hpre]; simp only [otPre, spn]; rw [jAt_lt hxm]
      have hdue : due js x = js[x].d := by simp only [due]; rw [jAt_lt hxm]
      rw [← hpre1] at hown2
      have Hown2 := hide hown2
      have Hpre := hide hpre
      have Hpre1 := hide hpre1
      have Hpre2 := hide hpre2
      have Hdue := hide hdue
      rw [← hbw2.cell (p := ⟨b, _, none⟩) (by simpa using by omega)] at p1 p2
      rw [hb.cell (p := ⟨b1, _, none⟩) (by simpa using by omega), ← hB1.cell (p := ⟨b1, _, none⟩) (by simpa using by omega)] at r1
      have hpl : pre.1.length = st.1.length + 1 := by rw [hpre1]; simp
      have hpre2' : st.2 + js[x].s = pre.2 := hpre2.symm
      clear hbel hown2 hpre hpre1 hpre2 hdue
      by_cases hq : js[x].d < st.2 + js[x].s
      · have hqB : decide (js[x].d < st.2 + js[x].s) = true := by simp [hq]
        have hpin : ∀ y ∈ pre.1, ix js y := by
          rw [Hpre1.out]
          intro y hy
          rcases List.mem_append.1 hy with h | h
          · exact Hin.out y h
          · rw [List.mem_singleton] at h; rw [h]; exact hixx
        have hat : ∀ j (hj : j < pre.1.length), ∃ y : Nat, pre.1[j] = y ∧ y < js.length := fun j hj => by
          have := hpin _ (List.getElem_mem hj)
          have g1 := this.1
          have g2 := this.2
          exact ⟨pre.1[j].toNat, by omega, by omega⟩
        have HF := hide (show ot js (os.take (k + 1)) = otCut js pre by
          rw [HN.out]
          unfold otStep
          rw [Hpre.out, Hdue.out, Hpre2.out, if_pos hq])
        obtain ⟨⟨g, capg, rfl⟩, -⟩ := id Hown2.out
        have Hat := hide hat
        obtain ⟨f, hrow, hf, hbg, -, hlg, hcg⟩ := Hown2.out.row
        have hcg' : capg ≤ 9223372036854775807 := by unfold maxLen at hcg; exact hcg
        have Hrow := hide hrow
        have Hf := hide hf
        have hpl1 : pre.1.length ≤ 7 := by omega
        have hpl2 : 0 < pre.1.length := by omega
        have hgz : g < w'.heap.size := hrow.lt
        clear hq hpin hat hrow hf hpl hpre2'
        go_wp2_with fail
        go_loopw [7, 8] (fun l i wy => ∃ j : Nat, j ≤ pre.1.length ∧ i = .int .i64 j ∧ l = .int .i64 (worstTo js pre.1 j) ∧ Below w'.heap.size w' wy) (fun _ i _ => pre.1.length - (intOf i).toNat)
        case atStart => exact ⟨0, Nat.zero_le _, rfl, rfl, Below.refl _ _⟩
        case round =>
          obtain ⟨j, hj, rfl, hlw, hby⟩ := hrel
          have hWlt := worstTo_le js pre.1 j pre.1.length hj hpl2
          obtain ⟨W, hW⟩ : ∃ W, worstTo js pre.1 j = W := ⟨_, rfl⟩
          rw [hW] at hlw hWlt
          subst hlw
          have HW := hide hW
          clear hW
          obtain ⟨y, hy, hym⟩ := Hat.out W hWlt
          have Hrowy := hide (rowIs_below Hrow.out hby hgz)
          have k1 := Hrowy.out.cell (i := W) (by omega)
          rw [Hf.out W hWlt, hy] at k1
          obtain ⟨⟨q1, q2, q3⟩, -⟩ := Hcs.out y hym
          have hgy : pre.1.getD W 0 = (y : Int) := by rw [getD_lt hWlt, hy]
          have hbwy : Below w.heap.size w wr := Below.step hbw2 hby (Nat.le_refl _)
          rw [← hbwy.cell (p := ⟨b, _, none⟩) (by simpa using by omega)] at q1
          have hyI : (y : Int) < (js.length : Int) := by omega
          have hWI : (W : Int) < (pre.1.length : Int) := by omega
          have Hgy := hide hgy
          have Hy := hide hy
          clear hy q2 q3 hgy
          by_cases hjl : j < pre.1.length
          · obtain ⟨z, hz, hzm⟩ := Hat.out j hjl
            have k2 := Hrowy.out.cell (i := j) (by omega)
            rw [Hf.out j hjl, hz] at k2
            obtain ⟨⟨m1, m2, m3⟩, -⟩ := Hcs.out z hzm
            have hgz' : pre.1.getD j 0 = (z : Int) := by rw [getD_lt hjl, hz]
            rw [← hbwy.cell (p := ⟨b, _, none⟩) (by simpa using by omega)] at m1
            have hzI : (z : Int) < (js.length : Int) := by omega
            have hjI : (j : Int) < (pre.1.length : Int) := by omega
            clear hz m2 m3
            have hsp1 : spn js (y : Int) = js[y].s := by simp only [spn]; rw [jAt_lt hym]
            have hsp2 : spn js (z : Int) = js[z].s := by simp only [spn]; rw [jAt_lt hzm]
            by_cases hge : js[y].s ≤ js[z].s
            · have hgB : decide (js[y].s ≤ js[z].s) = true := by simp [hge]
              have HNX := hide (show worstTo js pre.1 (j + 1) = j by simp only [worstTo, HW.out]; rw [Hgy.out, hgz', hsp1, hsp2, if_pos hge])
              clear hge hgz' hsp1 hsp2
              go_wp2_with fail
              go_quiet (fail)
              go_wp2_with fail
              go_roundw
              case rel => exact ⟨j + 1, by omega, by go_num, by rw [HNX.out], below_drewN hby _⟩
              case measure => simp [intOf]; omega
            · have hgB : decide (js[y].s ≤ js[z].s) = false := by simp only [decide_eq_false_iff_not]; exact hge
              have HNX := hide (show worstTo js pre.1 (j + 1) = W by simp only [worstTo, HW.out]; rw [Hgy.out, hgz', hsp1, hsp2, if_neg hge])
              clear hge hgz' hsp1 hsp2
              go_wp2_with fail
              go_quiet (fail)
              go_wp2_with fail
              go_roundw
              case rel => exact ⟨j + 1, by omega, by go_num, by rw [HNX.out], below_drewN hby _⟩
              case measure => simp [intOf]; omega
          · obtain rfl : j = pre.1.length := by omega
            obtain ⟨c1, c2⟩ := jvB_s (jsvB_at HV.out hym)
            have HCut := hide (show otCut js pre = (pre.1.eraseIdx W, st.2 + js[x].s - js[y].s) by
              unfold otCut worst
              rw [HW.out, Hgy.out, Hpre2.out]
              simp only [spn]; rw [jAt_lt hym])
            have hs2 : wrap64 (st.2 + js[x].s - js[y].s) = st.2 + js[x].s - js[y].s := by unfold wrap64; omega
            have HS2 := hide hs2
            clear hs2
            go_wp2_with fail
            obtain ⟨wA, hwA⟩ : ∃ wA, wA = (wr.alloc (Obj.cells #[] 3)).drew := ⟨_, rfl⟩
            obtain ⟨i0, hi0, hz0, hi1, hi2⟩ := info_parts info_int
            obtain ⟨n1, hn1⟩ : ∃ n1 : List Value, n1 = (pre.1.take W).map (Value.int .i64) := ⟨_, rfl⟩
            obtain ⟨n2, hn2⟩ : ∃ n2 : List Value, n2 = (pre.1.drop (W + 1)).map (Value.int .i64) := ⟨_, rfl⟩
            have hl1 : n1.length = W := by rw [hn1]; simp; omega
            have hl2 : n2.length = pre.1.length - (W + 1) := by rw [hn2]; simp
            have hrA : wA.rowIs g 3 capg f := by rw [hwA]; exact (Hrowy.out.alloc _).drew
            have hgy2 : g < wr.heap.size := Hrowy.out.lt
            have hsA : wA.heap.size = wr.heap.size + 1 := by rw [hwA]; simp
            have hbA : Below w1.heap.size w1 wA := by rw [hwA]; exact ((Below.step hB1 hby (Nat.le_refl _)).alloc (Nat.le_trans hB1.size hby.size) _).drew
            obtain ⟨A, hA, hnews⟩ : ∃ A : Addr, (if capg = W + 1 then some (⟨g, 0, none⟩ : Addr) else some ⟨g, W + 1, none⟩) = some A ∧ (∀ w2, Below wr.heap.size wA w2 → ∀ j u, n2[j]? = some u → w2.cell? (A.add j) = some u) := by
              by_cases h : capg = W + 1
              · refine ⟨⟨g, 0, none⟩, by simp [h], fun w2 _ j u hu => ?_⟩
                have h0 : n2.length = 0 := by omega
                rw [List.length_eq_zero_iff.1 h0] at hu
                simp at hu
              · refine ⟨⟨g, W + 1, none⟩, by simp [h], fun w2 hw2 j u hu => ?_⟩
                have hj : j < pre.1.length - (W + 1) := by
                  have := (List.getElem?_eq_some_iff.1 hu).1
                  rwa [hl2] at this
                have hj2 : W + 1 + j < pre.1.length := by omega
                rw [Addr.add_lit, (rowIs_below hrA hw2 hgy2).cell (i := W + 1 + j) (by omega), Hf.out _ hj2, ← hu, hn2]
                simp [hj2]
            have s1 : Hid (n1.length = W * 1) := by rw [Nat.mul_one]; exact hl1
            have s1' : Hid (n2.length = (pre.1.length - (W + 1)) * 1) := by rw [Nat.mul_one]; exact hl2
            have s2 : Hid (∀ u ∈ n1, u.oneCell' = true) := by
              intro u hu
              rw [hn1] at hu
              obtain ⟨x, _, rfl⟩ := List.mem_map.1 hu
              rfl
            have s2' : Hid (∀ u ∈ n2, u.oneCell' = true) := by
              intro u hu
              rw [hn2] at hu
              obtain ⟨x, _, rfl⟩ := List.mem_map.1 hu
              rfl
            have s3 : Hid (∀ j u, n1[j]? = some u → wA.cell? ((⟨g, 0, none⟩ : Addr).add j) = some u) := by
              intro j u hu
              have hj := (List.getElem?_eq_some_iff.1 hu).1
              rw [hl1] at hj
              have hj2 : j < pre.1.length := by omega
              rw [Addr.add_lit, Nat.zero_add, hrA.cell (i := j) (by omega), Hf.out _ hj2, ← hu, hn1]
              simp [hj2, hj]
            have s4 : (wA.ownsRow wr.heap.size 3 1 (.slice (some ⟨wr.heap.size, 0, none⟩) 0 0) 0 []) := by
              rw [hwA]
              have := (OwnI.new wr.heap.size wr [] (Nat.le_refl _) (by simp)).2
              show (wr.alloc (Obj.cells #[] 3)).ownsRow _ _ _ _ _ _
              simpa using this
            have Hnews := hide hnews
            have HwA := hide hwA
            have hWc : W ≤ capg := by omega
            have hW1 : IntKind.i64.wrap ((W : Int) + 1) = (W : Int) + 1 := by rw [IntWalk.i64_in] <;> omega
            have hW2 : (0 : Int) ≤ (W : Int) + 1 := by omega
            have hW3 : (W : Int) + 1 ≤ (pre.1.length : Int) := by omega
            have hW4 : ((W : Int) + 1).toNat = W + 1 := by omega
            have Hn1 := hide hn1
            have Hn2 := hide hn2
            clear hl1 hl2 hrA hn1 hn2 hnews
            go_region_law (first
              | (rw [← HwA.out]; refine step_append_own rfl (.tmp 81) (.tmp 84) 36 rfl 3 i0 (.int .i64 0) 1 8 Tryd.underlying36 hi0 hz0 hi1 hi2 rfl (by decide) wr.heap.size (.slice (some ⟨wr.heap.size, 0, none⟩) 0 0) 0 [] (by simp [Act.eval]) s4 ⟨g, 0, none⟩ W capg n1 (by simp [Act.eval]) s1.out s3.out s2.out (by unfold maxLen; omega) (by omega) (by omega) ?_; intro v2 w2 hown2 hgrow2)
              | (refine step_append_own rfl (.tmp 85) (.tmp 89) 36 rfl 3 i0 (.int .i64 0) 1 8 Tryd.underlying36 hi0 hz0 hi1 hi2 rfl (by decide) wr.heap.size _ _ _ (by simp [Act.eval]) hown2 A (pre.1.length - (W + 1)) (capg - (W + 1)) n2 (by simp [Act.eval]) s1'.out (Hnews.out _ ((Below.refl _ _).grown hgrow2 (by omega) (by simp [Value.ownBlock]))) s2'.out (by unfold maxLen; omega) (by omega) (by have := hgrow2.size; omega) ?_; intro v3 w3 hown3 hgrow3))
            have hown4 : OwnR w1.heap.size w3 v3 (pre.1.eraseIdx W) := by
              refine OwnR.mono (OwnR.of_owns hown3 ?_ ?_) (Nat.le_trans hB1.size hby.size)
              · rw [List.length_eraseIdx, if_pos hWlt]; omega
              · rw [Hn1.out, Hn2.out, List.eraseIdx_eq_take_drop_succ]; simp
            have hbA2 : Below w1.heap.size w1 w2 := hbA.grown hgrow2 (by have := hB1.size; have := hby.size; omega) (by simp [Value.ownBlock]; have := hB1.size; have := hby.size; omega)
            have hbA3 : Below w1.heap.size w1 w3 := hbA2.grown hgrow3 hbA2.size (fun k hk => Nat.le_trans (Nat.le_trans hB1.size hby.size) ((OwnR.of_owns (xs := pre.1.take W) hown2 (by simp; omega) (by rw [Hn1.out]; simp)).block k hk))
            have HO4 := hide hown4
            clear hown4 hown2 hown3 hgrow2 hgrow3 hW1 hW2 hW3 hW4 k1 q1 p1 p2 r1 hA
            set_option maxRecDepth 10000 in
            go_wp2_with fail
            exact ⟨⟨k + 1, by omega, by go_num, by rw [HF.out, HCut.out], hbA3, by rw [HF.out, HCut.out]; exact .inl HO4.out⟩, by simp [intOf]; omega⟩
      · have hqB : decide (js[x].d < st.2 + js[x].s) = false := by simp only [decide_eq_false_iff_not]; exact hq
        have HF := hide (show ot js (os.take (k + 1)) = pre by
          rw [HN.out]
          unfold otStep
          rw [Hpre.out, Hdue.out, Hpre2.out, if_neg hq])
        have hq' : st.2 + js[x].s ≤ js[x].d := Int.not_lt.1 hq
        clear hq hqB hpl hpre2'
        obtain ⟨⟨g, capg, rfl⟩, -⟩ := id Hown2.out
        set_option maxRecDepth 10000 in
        go_wp2_with fail
        go_roundw
        case rel => exact ⟨k + 1, by omega, by go_num, by rw [HF.out, Hpre2.out], hB1, by rw [HF.out]; exact .inl (.inr Hown2.out)⟩
        case measure => simp [intOf]; omega
    · obtain rfl : k = os.length := by omega
      rw [List.take_length, ← HK.out] at Ho
      rw [List.take_length]
      obtain ⟨sm, hsm⟩ : ∃ sm, (ot js os).2 = sm := ⟨_, rfl⟩
      rw [hsm]
      clear hsm
      obtain ⟨aok, capk, rfl⟩ := Ho.out.shape
      have hzr : w1.heap.size ≤ wr.heap.size := hb.size
      have HKi := hide (Ho.out.at hzr)
      obtain ⟨wo, rfl⟩ : ∃ wo : World, wo = wr := ⟨_, rfl⟩
      have hbw := Below.step hb01 hb (Nat.le_refl _)
      have hn0 := OwnI.new wo.heap.size wo [] (Nat.le_refl _) (by simp)
      have Hn0 := hide hn0
      clear hn0
      go_wp2_with fail
      go_loopw [9, 10] (fun o i wy => ∃ m : Nat, m ≤ js.length ∧ i = .int .i64 m ∧ Below wo.heap.size wo wy ∧ OwnI wo.heap.size wy o (ascTo (keptR js) m)) (fun _ i _ => js.length - (intOf i).toNat)
      case atStart => exact ⟨0, Nat.zero_le _, rfl, (Below.refl _ _).alloc (Nat.le_refl _) _, by simpa [ascTo] using Hn0.out⟩
      case round =>
        obtain ⟨m, hm, rfl, hby, hown⟩ := hrel
        have Hy := hide hown
        obtain ⟨⟨g, capg, rfl⟩, -⟩ := hown
        have HKy := hide (HKi.out.below hby)
        by_cases hlt : m < js.length
        · cases hh : hasI (keptR js) m with
          | false =>
            have HN := hide (show ascTo (keptR js) (m + 1) = ascTo (keptR js) m by simp [ascTo, hh])
            have HHh := hide hh
            clear hh
            go_wp2_with fail
            refine (l1Has_any _ (keptR js) _ _ _ _ HKy.out).mono ?_
            rw [HHh.out]
            rintro e w3 ⟨rfl, rfl⟩
            go_wp2_with fail
            go_roundw
            case rel => exact ⟨m + 1, by omega, by go_num, hby, by rw [HN.out]; exact Hy.out⟩
            case measure => simp [intOf]; omega
          | true =>
            have HN := hide (show ascTo (keptR js) (m + 1) = ascTo (keptR js) m ++ [(m : Int)] by simp [ascTo, hh])
            have hv : jsvB js = true := by
              cases h : jsvB js with
              | true => rfl
              | false => rw [keptR, h] at hh; simp [hasI] at hh
            have hl := jsvB_len hv
            have hal := asc_len (keptR js) m
            have HHh := hide hh
            have hzy : wo.heap.size ≤ wr.heap.size := hby.size
            clear hh hv
            go_wp2_with fail
            refine (l1Has_any _ (keptR js) _ _ _ _ HKy.out).mono ?_
            rw [HHh.out]
            rintro e w3 ⟨rfl, rfl⟩
            have hnew := OwnI.new wo.heap.size wr [(m : Int)] hzy (by simp)
            have hoy := KeptAt.below (.inl (.inr Hy.out)) ((Below.refl wr.heap.size wr).alloc (Nat.le_refl _) (.cells #[.int .i64 (m : Int)] 3)) (Nat.le_refl _)
            have Hnew := hide hnew
            have Hoy := hide hoy
            have hsz1 : wo.heap.size ≤ (wr.alloc (.cells #[.int .i64 (m : Int)] 3)).heap.size := by simp; omega
            have HSZ := hide hsz1
            clear hnew hoy hsz1
            go_wp2_with (at_builtin; refine wpList_append_kept rfl _ _ rfl wo.heap.size _ (ascTo (keptR js) m) rfl Hoy.out ⟨wr.heap.size, 0, none⟩ 1 (m : Int) rfl ?c2 ?c4 HSZ.out ?_)
            case c2 => exact Hnew.out.2.cells rfl
            case c4 => omega
            intro v' w' hown2 hbel
            have hB1 : Below wo.heap.size wo w' := hbel _ _ (Nat.le_refl _) (hby.alloc hzy _)
            rw [← HN.out] at hown2
            have Hown2 := hide hown2
            clear hown2 hbel
            go_wp2_with fail
            go_roundw
            case rel => exact ⟨m + 1, by omega, by go_num, hB1, Hown2.out⟩
            case measure => simp [intOf]; omega
        · obtain rfl : m = js.length := by omega
          go_wp2_with fail
          go_ret
          refine ⟨_, rfl, ?_, Below.step hbw hby (Nat.le_refl _)⟩
          exact Hy.out.at.mono hbw.size (Nat.le_refl _) (Nat.le_refl _)
end Go.Proofs.YtfjemnjdkniibaaDoor
