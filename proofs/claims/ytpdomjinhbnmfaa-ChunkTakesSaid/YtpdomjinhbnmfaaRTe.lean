/- The reference's receiver: its end. -/
import Derived.Test.YtpdomjinhbnmfaaRTk
set_option linter.unusedSimpArgs false
set_option linter.unusedVariables false
set_option linter.unnecessarySimpa false
set_option maxRecDepth 100000
namespace Go.Proofs.Ytpdomjinhbnmfaa
open Go.RowKit Go.Proofs.YtpdomjinhbnmfaaW.PrintWords
attribute [local go_sem] max2_max min2_min max_of_two min_of_two alL_v bdL_none bdL_one bxL_ln lnguard_eq lnguard_ne lnbin_eq lnbin_ne
attribute [local go_sem ↓] ldL_in bxL_in stL_in alL_in bdL_in cvS_in
attribute [local go_sem] alK_v bxK_v
attribute [local go_sem ↓] ldK_in bxK_in stK_in alK_in

def flatB (l : List Ln) : List Int := l.flatMap fun a => a.l.drop 1
theorem flatB_len (l : List Ln) : (flatB l).length = 7 * l.length := by
  induction l with
  | nil => rfl
  | cons a l ih =>
    simp only [flatB, List.flatMap_cons, List.length_append, List.length_drop, a.h, List.length_cons] at ih ⊢
    omega
theorem flatB_snoc (l : List Ln) (x : Ln) : flatB (l ++ [x]) = flatB l ++ x.l.drop 1 := by simp [flatB]
theorem flatB_byt {l : List Ln} (h : ∀ a ∈ l, Byt a.l) : Byt (flatB l) := fun x hx => by
  obtain ⟨a, ha, hx⟩ := List.mem_flatMap.1 hx
  exact h a ha x (List.mem_of_mem_drop hx)
theorem rtend_no (u : Value) (n blk spare : Int) (q : Bool) (w : World) (hq : q = false ∨ spare < 0 ∨ 7 < spare) :
    Calls Try.prog 25 #[Kd'.val ⟨u, n, blk, q⟩, .int .i64 spare] w fun e w' => e = .returned (.tuple #[.slice none 0 0, .int .i64 (if q = false then 134217762 else 101122064)]) ∧ Ext w w' := by
  have K0 : Ext w (w.alloc (.cells (Kd'.cells ⟨u, n, blk, q⟩) KT)) := (by repeat (first | with_reducible exact Ext.refl _ | with_reducible assumption | with_reducible apply Ext.alloc | with_reducible apply Ext.drew | with_reducible apply Ext.drewN | (with_reducible refine Ext.set' ?_ (by first | omega | (simp only [World.size_alloc, World.size_setCell]; omega))) | (with_reducible refine Ext.trans ?_ (by with_reducible assumption)) | (with_reducible refine Ext.only ?_ (by with_reducible assumption) (by omega))))
  have c3 : (w.alloc (.cells (Kd'.cells ⟨u, n, blk, q⟩) KT)).cell? ⟨w.heap.size, 3, none⟩ = some (.bool q) := (Blk.new w (Kd'.cells ⟨u, n, blk, q⟩) KT).cell 3 _ rfl
  cases q
  · clear hq
    go_enter Try.func25, Try.ntmps25
    go_wp2_with fail
    go_ret2
    exact ⟨rfl, K0⟩
  · have hq' : spare < 0 ∨ 7 < spare := by rcases hq with h | h; cases h; exact h
    by_cases h0 : spare < 0
    · have e1 : decide (spare < 0) = true := by simpa using h0
      clear hq hq' h0
      go_enter Try.func25, Try.ntmps25
      go_wp2_with fail
      go_ret2
      exact ⟨rfl, K0⟩
    · have e1 : decide (spare < 0) = false := by simpa using h0
      have e2 : decide (7 < spare) = true := by simp; omega
      clear hq hq' h0
      go_enter Try.func25, Try.ntmps25
      go_wp2_with fail
      go_ret2
      exact ⟨rfl, K0⟩
set_option maxHeartbeats 4000000 in
theorem rtend_c (u : Value) (l : List Ln) (n blk : Int) (spare : Nat) (w : World) (h : OwnR lnLay w 0 u l) (hb : ∀ a ∈ l, Byt a.l) (hl : l.length ≤ 100) (hs : spare ≤ 7) (hsl : spare ≤ 7 * l.length) :
    Calls Try.prog 25 #[Kd'.val ⟨u, n, blk, true⟩, .int .i64 spare] w fun e w' => ∃ v, e = .returned (.tuple #[v, .int .i64 0]) ∧ Bs w' v ((flatB l).take ((flatB l).length - spare)) ∧ Ext w w' := by
  obtain ⟨A, bl, c, rfl, hc, hrow⟩ := h.rows (by omega)
  have K0 : Ext w (w.alloc (.cells (Kd'.cells ⟨.slice A l.length c, n, blk, true⟩) KT)) := (by repeat (first | with_reducible exact Ext.refl _ | with_reducible assumption | with_reducible apply Ext.alloc | with_reducible apply Ext.drew | with_reducible apply Ext.drewN | (with_reducible refine Ext.set' ?_ (by first | omega | (simp only [World.size_alloc, World.size_setCell]; omega))) | (with_reducible refine Ext.trans ?_ (by with_reducible assumption)) | (with_reducible refine Ext.only ?_ (by with_reducible assumption) (by omega))))
  have bk := Blk.new w (Kd'.cells ⟨.slice A l.length c, n, blk, true⟩) KT
  have hrow1 := hrow.ext K0
  generalize hw1 : (w.alloc (.cells (Kd'.cells ⟨.slice A l.length c, n, blk, true⟩) KT)) = w1 at *
  have c3 : w1.cell? ⟨w.heap.size, 3, none⟩ = some (.bool true) := bk.cell 3 _ rfl
  have e1 : decide ((spare : Int) < 0) = false := by simp
  have e2 : decide (7 < (spare : Int)) = false := by simp; omega
  have O0 := hid (own8_new w1 w1.heap.size (Nat.le_refl _))
  have X1 : Hid (Ext w1 (w1.alloc (.cells #[] U8))) := hid (Ext.alloc (Ext.refl w1))
  have C0 := hid (fun w' (k : Ext w1 w') => (show w'.cell? ⟨w.heap.size, 0, none⟩ = some (.slice A l.length c) from k.cell (bk.cell 0 _ rfl)))
  have HR := hid hrow1
  have HK := hid K0
  have HB := hid hb
  obtain ⟨T, hTT⟩ : ∃ T, Is ((flatB l).length - spare) T := ⟨_, Is.refl _⟩
  rw [hTT.eq]
  clear K0 bk hrow hrow1 h hb
  go_enter Try.func25, Try.ntmps25
  go_wp2_with fail
  go_loopg [6, 7] l.length (fun k u6 u7 wr => ∃ i : Nat, i + k = l.length ∧ u7 = .int .i64 (i : Int) ∧ Hid (Own8 wr w1.heap.size u6 (flatB (l.take i))) ∧ Hid (Ext w1 wr))
  case atStart => exact ⟨0, by omega, rfl, O0, X1⟩
  case round =>
    clear O0 X1 c3
    obtain ⟨i, hik, rfl, HO, HX⟩ := hrel
    have c0 := C0.out wr HX.out
    by_cases hlt : i < l.length
    · have e3 : decide ((i : Int) < (l.length : Int)) = true := by simpa using hlt
      have i0 : (0 : Int) ≤ (i : Int) := by omega
      have i1 : (i : Int) < (l.length : Int) := by omega
      obtain ⟨rfl, _⟩ := HR.out.2.1 (by omega)
      have HCELL := hid (fun w' (k : Ext w1 w') (j : Nat) (hj : j < 8) => (by
        have h1 := k.cell (HR.out.2.2 i l[i] (List.getElem?_eq_getElem hlt) j _ (show (lnLay.enc l[i])[j]? = some (.int .u8 (l[i].at j)) from by
          have := (l[i]).cell hj
          simpa [Ln.cells, lnLay] using this))
        have e : 0 + i * lnLay.k + j = i * 8 + j := by show 0 + i * 8 + j = _; omega
        rw [e] at h1
        exact h1 : w'.cell? ⟨bl, i * 8 + j, none⟩ = some (.int .u8 (l[i].at j))))
      have TK := hid (show flatB (l.take (i + 1)) = flatB (l.take i) ++ (l[i]).l.drop 1 from by
        rw [List.take_add_one, List.getElem?_eq_getElem hlt]
        exact flatB_snoc _ _)
      have HL := hid (show (flatB (l.take i)).length ≤ 1000 from by rw [flatB_len, List.length_take]; omega)
      obtain ⟨gk0, hgk0⟩ : ∃ q, Is gk q := ⟨_, Is.refl _⟩
      have HG := hid (And.intro hik hgk0.eq)
      generalize l[i] = a at *
      generalize flatB (l.take i) = F at *
      clear hik hgk0
      go_wp2_with fail
      go_loopg [6, 8] 7 (fun g u6' u8 wr2 => ∃ j : Nat, j + g = 7 ∧ u8 = .int .i64 ((j + 1 : Nat) : Int) ∧ Hid (Own8 wr2 w1.heap.size u6' (F ++ (a.l.drop 1).take j)) ∧ Hid (Ext w1 wr2))
      case atStart => exact ⟨0, by omega, rfl, by simpa using HO, HX⟩
      case round =>
        clear HO HX c0 e3
        obtain ⟨j, hjg, rfl, HO2, HX2⟩ := hrel
        have c02 := C0.out wr HX2.out
        by_cases hj : j < 7
        · have e5 : decide (((j + 1 : Nat) : Int) < 8) = true := by simp; omega
          obtain ⟨J, hJ⟩ : ∃ J, Is (j + 1) J := ⟨_, Is.refl _⟩
          rw [hJ.eq] at e5 ⊢
          have j0 : (0 : Int) ≤ (J : Int) := by omega
          have j1 : (J : Int) < 8 := by have := hJ.eq; omega
          have cj := HCELL.out wr HX2.out J (by omega)
          have HT := hid (show F ++ (a.l.drop 1).take (j + 1) = (F ++ (a.l.drop 1).take j) ++ [a.at J] from by
            rw [List.take_add_one, List.getElem?_drop, List.getElem?_eq_getElem (by rw [a.h]; have := hJ.eq; omega), List.append_assoc]
            have := hJ.eq
            subst this
            unfold Ln.at
            rw [getD_at (by rw [a.h]; omega)]
            simp [Nat.add_comm])
          have hlen : (F ++ (a.l.drop 1).take j).length + 1 ≤ 140737488355328 := by
            have := HL.out
            rw [List.length_append, List.length_take]; omega
          have hbs : w1.heap.size ≤ wr.heap.size := HX2.out.le
          have HJW : Hid (IntKind.i64.wrap ((J : Int) + 1) = ((j + 1 + 1 : Nat) : Int)) := hid ((IntWalk.i64_in _ (by omega)).trans (by have := hJ.eq; omega))
          have hjw := HJW.out
          clear HJW
          have hx2 := HX2.out
          go_wp2_with (at_builtin; go_must (refine app8k rfl (.tmp 30) (.tmp 38) rfl w1.heap.size rfl rfl (by first | with_reducible rfl | simp only [World.size_alloc, World.size_setCell] | rfl | simp) HO2.out (by first | omega | (simp only [List.length_append, List.length_cons, List.length_nil]; omega)) (Ext.le (by repeat (first | with_reducible exact Ext.refl _ | with_reducible assumption | with_reducible apply Ext.alloc | with_reducible apply Ext.drew | with_reducible apply Ext.drewN | (with_reducible refine Ext.set' ?_ (by first | omega | (simp only [World.size_alloc, World.size_setCell]; omega))) | (with_reducible refine Ext.trans ?_ (by with_reducible assumption)) | (with_reducible refine Ext.only ?_ (by with_reducible assumption) (by omega))))) ?_); intro v6 w6 o6 k6 kk6; have K6 : Ext w1 w6 := Ext.back (by repeat (first | with_reducible exact Ext.refl _ | with_reducible assumption | with_reducible apply Ext.alloc | with_reducible apply Ext.drew | with_reducible apply Ext.drewN | (with_reducible refine Ext.set' ?_ (by first | omega | (simp only [World.size_alloc, World.size_setCell]; omega))) | (with_reducible refine Ext.trans ?_ (by with_reducible assumption)) | (with_reducible refine Ext.only ?_ (by with_reducible assumption) (by omega)))) k6; clear k6; (have HO6 := hid (show Own8 w6 w1.heap.size v6 (F ++ (a.l.drop 1).take (j + 1)) from by rw [HT.out]; exact o6); have HX6 := hid K6; clear o6 kk6 K6))
          go_roundg (gk - 1)
          case rel => exact ⟨j + 1, by omega, rfl, HO6, HX6⟩
          case measure => omega
        · obtain rfl : j = 7 := by omega
          have e5 : decide (((7 + 1 : Nat) : Int) < 8) = false := by decide
          have hi2 : IntKind.i64.wrap ((i : Int) + 1) = ((i + 1 : Nat) : Int) := (IntWalk.i64_in _ (by omega)).trans (by omega)
          have HO7 := hid (show Own8 wr w1.heap.size u6 (flatB (l.take (i + 1))) from by
            rw [TK.out]
            have := HO2.out
            rwa [List.take_of_length_le (by simp [a.h])] at this)
          go_wp2_with fail
          go_roundg (gk0 - 1)
          case rel => exact ⟨i + 1, by have := HG.out; omega, rfl, HO7, HX2⟩
          case measure => (have := HG.out; omega)
    · obtain rfl : i = l.length := by omega
      have e3 : decide ((l.length : Int) < (l.length : Int)) = false := by simp
      have ho := HO.out
      rw [List.take_of_length_le (Nat.le_refl _)] at ho
      have hfl := flatB_len l
      obtain ⟨A6, c6, hv6⟩ := own8_form ho
      subst hv6
      have hc6 : (flatB l).length ≤ c6 := by
        obtain ⟨A', bl', o', c', he, hc', _⟩ := ho.row
        injection he with _ _ h2
        omega
      have hT := hTT.eq
      have hsub : IntKind.i64.wrap (((flatB l).length : Int) - (spare : Int)) = (T : Int) := (IntWalk.i64_in _ (by omega)).trans (by omega)
      have f0 : (0 : Int) ≤ (T : Int) := by omega
      have f1 : (T : Int) ≤ (c6 : Int) := by omega
      have HF := hid (bs_head (T := T) (Bs.own ho (flatB_byt HB.out)) (by omega))
      have HKK := hid (HK.out.trans HX.out)
      clear ho hT HO HX hfl hc6
      go_wp2_with fail
      go_ret2
      exact ⟨_, rfl, HF.out, HKK.out⟩

end Go.Proofs.Ytpdomjinhbnmfaa
