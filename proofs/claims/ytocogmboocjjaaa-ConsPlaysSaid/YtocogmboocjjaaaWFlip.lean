/- Package word: Flip turns each bit of a row of bytes. -/
import Derived.Test.YtocogmboocjjaaaAuto
set_option linter.unusedSimpArgs false
set_option linter.unusedVariables false
set_option linter.unnecessarySimpa false
namespace Go.Proofs.Ytocogmboocjjaaa
open Go.RowKit Go.Proofs.YtocogmboocjjaaaW.PrintWords
attribute [local go_sem] max2_max min2_min max_of_two min_of_two

/-- Each bit turned. -/
def flipL (l : List Int) : List Int := l.map fun x => 255 - x
theorem flipL_len (l : List Int) : (flipL l).length = l.length := by simp [flipL]
theorem flipL_byt {l : List Int} (h : Byt l) : Byt (flipL l) := by
  intro x hx
  obtain ⟨y, hy, rfl⟩ := List.mem_map.1 hx
  have := h y hy
  show 0 ≤ 255 - y ∧ 255 - y ≤ 255
  omega
theorem flipL_flip (l : List Int) : flipL (flipL l) = l := by
  unfold flipL
  rw [List.map_map]
  conv => rhs; rw [← List.map_id l]
  apply List.map_congr_left
  intro x _
  show 255 - (255 - x) = x
  omega
theorem flipL_snoc {l : List Int} {i : Nat} (h : i < l.length) (z : List Int) : (flipL (l.take i) ++ 0 :: z).set i (255 - l.getD i 0) = flipL (l.take (i + 1)) ++ z := by
  have e : (flipL (l.take i)).length = i := by rw [flipL_len, List.length_take]; omega
  rw [List.set_append_right _ _ (by omega), e, Nat.sub_self, List.set_cons_zero, List.take_add_one, List.getElem?_eq_getElem h, getD_at h]
  simp only [flipL, List.map_append, Option.toList_some, List.map_cons, List.map_nil, List.append_assoc, List.cons_append, List.nil_append]
theorem xor_max {x : Int} (h0 : 0 ≤ x) (h1 : x ≤ 255) : Go.bits .xor .u8 IntKind.u8.max x = 255 - x := by
  obtain ⟨q, rfl⟩ := Int.eq_ofNat_of_zero_le h0
  have : ∀ q : Fin 256, Go.bits .xor .u8 IntKind.u8.max ((q.val : Nat) : Int) = 255 - ((q.val : Nat) : Int) := by decide +kernel
  exact this ⟨q, by omega⟩

set_option maxHeartbeats 2000000 in
theorem wflip_c (v : Value) (l : List Int) (w : World) (hv : Bs w v l) (hn : l.length ≤ 140737488355328) :
    Calls Try.prog 66 #[v] w fun e w' => ∃ u, e = .returned u ∧ Own8 w' w.heap.size u (flipL l) ∧ Ext w w' := by
  obtain ⟨A, bl, o, c, rfl, hlc, hrow, hb⟩ := hv
  have hl0 := hrow.1
  obtain ⟨R, hR⟩ : ∃ R, Is (flipL l) R := ⟨_, Is.refl _⟩
  rw [hR.eq]
  obtain ⟨n, hn'⟩ : ∃ n, l.length = n := ⟨_, rfl⟩
  have HN := hid hn'
  rw [hn'] at hlc hn hl0 ⊢
  clear hn'
  have HB := hid hb
  clear hb
  by_cases h0 : n = 0
  · subst h0
    have : l = [] := List.eq_nil_of_length_eq_zero HN.out
    subst this
    go_enter Try.func66, Try.ntmps66
    go_wp2_with (first | (at_make; refine mk8_full rfl _ _ rfl w.heap.size 0 rfl rfl rfl rfl (by omega) (Nat.le_refl _) ?_; intro v0 w0 o0 k0 e0; have K0 := Ext.of k0; clear k0 e0))
    go_loopg [11] 0 (fun g u11 wr => u11 = .int .i64 0 ∧ wr = w0)
    case atStart => exact ⟨rfl, rfl⟩
    case round =>
      obtain ⟨rfl, rfl⟩ := hrel
      go_wp2_with fail
      go_ret
      exact ⟨_, rfl, by rw [← hR.eq]; exact o0, K0⟩
  · go_enter Try.func66, Try.ntmps66
    go_wp2_with (first | (at_make; refine mk8_full rfl _ _ rfl w.heap.size n rfl rfl rfl rfl (by omega) (Nat.le_refl _) ?_; intro v0 w0 o0 k0 e0; have K0 := Ext.of k0; clear k0 e0; obtain ⟨g, c', e1, hg, hmc⟩ := o0.shape (by simp; omega); rw [List.length_replicate] at e1 hmc; subst e1))
    go_loopg [11] n (fun k u11 wr => ∃ i : Nat, i + k = n ∧ u11 = .int .i64 i ∧ Own8 wr w.heap.size (.slice (some ⟨g, 0, none⟩) n c') (flipL (l.take i) ++ List.replicate k 0) ∧ Ext w wr)
    case atStart => exact ⟨0, by omega, rfl, o0, K0⟩
    case round =>
      clear o0 K0
      obtain ⟨i, hik, rfl, ho, K⟩ := hrel
      by_cases hk : gk = 0
      · subst hk
        obtain rfl : i = n := by omega
        have e1 : decide ((i : Int) < (i : Int)) = false := by simp
        have hr : flipL (l.take i) ++ List.replicate 0 0 = R := by rw [← hR.eq, List.take_of_length_le (by have := HN.out; omega)]; simp
        rw [hr] at ho
        clear hr
        go_wp2_with fail
        go_ret
        exact ⟨_, rfl, ho, K⟩
      · obtain ⟨k, rfl⟩ : ∃ k, gk = k + 1 := ⟨gk - 1, by omega⟩
        have hlt : i < l.length := by have := HN.out; omega
        obtain ⟨rfl, hc⟩ := hrow.cell K hlt
        have hx := HB.out.at hlt
        obtain ⟨hcc, hf, hput⟩ := ho.put (i := i) (by rw [List.length_append, flipL_len, List.length_take, List.length_replicate]; omega)
        have o1 := hput (255 - l.getD i 0)
        have hs := flipL_snoc hlt (List.replicate k 0)
        rw [show flipL (l.take i) ++ List.replicate (k + 1) 0 = flipL (l.take i) ++ 0 :: List.replicate k 0 by rw [List.replicate_succ]] at o1
        rw [hs] at o1
        have HO := hid o1
        have i0 : (0 : Int) ≤ (i : Int) := by omega
        have i1 : (i : Int) < (n : Int) := by omega
        generalize (flipL (l.take i) ++ List.replicate (k + 1) 0).getD i 0 = q at *
        generalize l.getD i 0 = x at *
        clear hput hs ho o1 hlt
        go_wp2_with fail
        go_roundg k
        case rel => exact ⟨i + 1, by omega, by go_num, by rw [xor_max hx.1 hx.2]; exact HO.out, (by repeat (first | with_reducible exact Ext.refl _ | with_reducible assumption | with_reducible apply Ext.alloc | with_reducible apply Ext.drew | with_reducible apply Ext.drewN | (with_reducible refine Ext.set' ?_ (by first | omega | (simp only [World.size_alloc, World.size_setCell]; omega))) | (with_reducible refine Ext.trans ?_ (by with_reducible assumption)) | (with_reducible refine Ext.only ?_ (by with_reducible assumption) (by omega))))⟩
        case measure => omega

end Go.Proofs.Ytocogmboocjjaaa
