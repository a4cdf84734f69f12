/- tripwireref02.Flip: bytes turned, one by one. -/
import Derived.Test.YtocogmboocjjaaaWFlip
set_option linter.unusedSimpArgs false
set_option linter.unusedVariables false
set_option linter.unnecessarySimpa false
namespace Go.Proofs.Ytocogmboocjjaaa
open Go.RowKit Go.Proofs.YtocogmboocjjaaaW.PrintWords
attribute [local go_sem] max2_max min2_min max_of_two min_of_two

theorem flipL_app {l : List Int} {i : Nat} (h : i < l.length) : flipL (l.take (i + 1)) = flipL (l.take i) ++ [255 - l.getD i 0] := by
  rw [List.take_add_one, List.getElem?_eq_getElem h, getD_at h]
  simp only [flipL, List.map_append, Option.toList_some, List.map_cons, List.map_nil]

set_option maxHeartbeats 2000000 in
theorem rflip2_c (v : Value) (l : List Int) (w : World) (hv : Bs w v l) (hn : l.length ≤ 140737488355000) :
    Calls Try.prog 14 #[v] w fun e w' => ∃ u, e = .returned u ∧ Own8 w' w.heap.size u (flipL l) ∧ Ext w w' := by
  obtain ⟨A, bl, o, c, rfl, hlc, hrow, hb⟩ := hv
  have hl0 := hrow.1
  obtain ⟨R, hR⟩ : ∃ R, Is (flipL l) R := ⟨_, Is.refl _⟩
  rw [hR.eq]
  obtain ⟨n, hn'⟩ : ∃ n, l.length = n := ⟨_, rfl⟩
  have HN := hid hn'
  rw [hn'] at hlc hn hl0 ⊢
  clear hn'
  have HB := hid hb
  clear hb
  have o0 := own8_new w w.heap.size (Nat.le_refl _)
  have K0 : Ext w (w.alloc (.cells #[] 5)) := (by repeat (first | with_reducible exact Ext.refl _ | with_reducible assumption | with_reducible apply Ext.alloc | with_reducible apply Ext.drew | with_reducible apply Ext.drewN | (with_reducible refine Ext.set' ?_ (by first | omega | (simp only [World.size_alloc, World.size_setCell]; omega))) | (with_reducible refine Ext.trans ?_ (by with_reducible assumption)) | (with_reducible refine Ext.only ?_ (by with_reducible assumption) (by omega))))
  go_enter Try.func14, Try.ntmps14
  go_wp2_with fail
  go_loopg [3, 4] n (fun k u3 u4 wr => ∃ i : Nat, i + k = n ∧ u4 = .int .i64 i ∧ Own8 wr w.heap.size u3 (flipL (l.take i)) ∧ Ext w wr)
  case atStart => exact ⟨0, by omega, rfl, o0, K0⟩
  case round =>
    clear o0 K0
    obtain ⟨i, hik, rfl, ho, K⟩ := hrel
    by_cases hk : gk = 0
    · subst hk
      obtain rfl : i = n := by omega
      have e1 : decide ((i : Int) < (i : Int)) = false := by simp
      have hr : flipL (l.take i) = R := by rw [← hR.eq, List.take_of_length_le (by have := HN.out; omega)]
      rw [hr] at ho
      go_wp2_with fail
      go_ret
      exact ⟨_, rfl, ho, K⟩
    · have hlt : i < l.length := by have := HN.out; omega
      have e1 : decide ((i : Int) < (n : Int)) = true := by simp; omega
      obtain ⟨rfl, hc⟩ := hrow.cell K hlt
      have hx := HB.out.at hlt
      have hs := hid (flipL_app hlt)
      have hll : (flipL (l.take i)).length ≤ n := by rw [flipL_len, List.length_take]; omega
      have i0 : (0 : Int) ≤ (i : Int) := by omega
      have i1 : (i : Int) < (n : Int) := by omega
      have hw : IntKind.u8.wrap (255 - l.getD i 0) = 255 - l.getD i 0 := by show (255 - l.getD i 0) % 256 = _; omega
      generalize l.getD i 0 = x at *
      clear hlt
      go_wp2_with (at_builtin; go_must (refine app8k rfl (.tmp 12) (.tmp 18) rfl w.heap.size rfl rfl (by first | with_reducible rfl | simp only [World.size_alloc, World.size_setCell] | rfl | simp) ho (by first | omega | (simp only [List.length_append, List.length_cons, List.length_nil]; omega)) (Ext.le (by repeat (first | with_reducible exact Ext.refl _ | with_reducible assumption | with_reducible apply Ext.alloc | with_reducible apply Ext.drew | with_reducible apply Ext.drewN | (with_reducible refine Ext.set' ?_ (by first | omega | (simp only [World.size_alloc, World.size_setCell]; omega))) | (with_reducible refine Ext.trans ?_ (by with_reducible assumption)) | (with_reducible refine Ext.only ?_ (by with_reducible assumption) (by omega))))) ?_); intro v5 w5 o5 k5 kk5; have K5 : Ext w w5 := Ext.back (by repeat (first | with_reducible exact Ext.refl _ | with_reducible assumption | with_reducible apply Ext.alloc | with_reducible apply Ext.drew | with_reducible apply Ext.drewN | (with_reducible refine Ext.set' ?_ (by first | omega | (simp only [World.size_alloc, World.size_setCell]; omega))) | (with_reducible refine Ext.trans ?_ (by with_reducible assumption)) | (with_reducible refine Ext.only ?_ (by with_reducible assumption) (by omega)))) k5; clear k5; (skip))
      rw [← hs.out] at o5
      go_roundg (gk - 1)
      case rel => exact ⟨i + 1, by omega, by go_num, o5, K5⟩
      case measure => omega

end Go.Proofs.Ytocogmboocjjaaa
