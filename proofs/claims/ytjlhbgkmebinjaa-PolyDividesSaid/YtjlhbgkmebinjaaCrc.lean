import Derived.Test.YtjlhbgkmebinjaaRem
import Derived.Test.YtjlhbgkmebinjaaPure3
set_option linter.unusedSimpArgs false
set_option linter.unusedVariables false
set_option linter.unnecessarySimpa false
namespace Go.Proofs.Ytjlhbgkmebinjaa
open Go.RowKit Go.Proofs.YtjlhbgkmebinjaaW.PrintWords
open Go.Proofs.Ytjlhbgkmebinjaa.Pure (foldO nat fd ps remV wholeV ofV crc16V crc15V)
attribute [local go_sem] max2_max min2_min max_of_two min_of_two

theorem rem_any (W L s : Int) (A : Option Addr) (bl o c : Nat) (l : List Int) (w : World) (h0 : 0 ≤ L) (h1 : L ≤ 4294967295) (hs0 : 0 ≤ s) (hs1 : s ≤ 4294967295) (hl : Row8 w A bl o l) (hb : ∀ x ∈ l, 0 ≤ x ∧ x ≤ 255) :
    Calls Try.prog 9 #[.agg #[.int .i64 W, .int .u32 L], .int .u32 s, .slice A l.length c] w fun e w' => e = .returned (.int .u32 (remV W L s l)) ∧ Below w.heap.size w w' := by
  by_cases h : Pure.mayP W L = true
  · obtain ⟨a1, a2, a3⟩ := Pure.mayP_iff.1 h
    obtain ⟨W, rfl⟩ := Int.eq_ofNat_of_zero_le (show 0 ≤ W by omega)
    obtain ⟨L, rfl⟩ := Int.eq_ofNat_of_zero_le h0
    obtain ⟨s, rfl⟩ := Int.eq_ofNat_of_zero_le hs0
    unfold remV
    rw [if_pos h]
    simp only [Int.toNat_natCast] at a3 ⊢
    exact rem_yes W L s A bl o c l w (by omega) (by omega) a3 (by omega) hl hb
  · unfold remV
    rw [if_neg h]
    exact rem_no W L s A c l w h0 h1 (show Pure.mayP W L = false by simpa using h)

theorem whole_any (W L : Int) (A : Option Addr) (bl o c : Nat) (l : List Int) (w : World) (h0 : 0 ≤ L) (h1 : L ≤ 4294967295) (hl : Row8 w A bl o l) (hb : ∀ x ∈ l, 0 ≤ x ∧ x ≤ 255) :
    Calls Try.prog 14 #[.agg #[.int .i64 W, .int .u32 L], .slice A l.length c] w fun e w' => e = .returned (.int .u32 (wholeV W L l)) ∧ Below w.heap.size w w' := by
  by_cases h : Pure.mayP W L = true
  · obtain ⟨a1, a2, a3⟩ := Pure.mayP_iff.1 h
    obtain ⟨W, rfl⟩ := Int.eq_ofNat_of_zero_le (show 0 ≤ W by omega)
    obtain ⟨L, rfl⟩ := Int.eq_ofNat_of_zero_le h0
    unfold wholeV
    rw [if_pos h]
    simp only [Int.toNat_natCast] at a3 ⊢
    exact whole_yes W L A bl o c l w (by omega) (by omega) a3 hl hb
  · unfold wholeV
    rw [if_neg h]
    exact whole_no W L A c l w h0 h1 (show Pure.mayP W L = false by simpa using h)

theorem of_any (n w0 : Int) (w : World) (h0 : 0 ≤ n) (h1 : n ≤ 4294967295) :
    Calls Try.prog 26 #[.int .u32 n, .int .i64 w0] w fun e w' => ∃ v, e = .returned v ∧ Own8 w' w.heap.size v (ofV n.toNat w0) ∧ Below w.heap.size w w' := by
  obtain ⟨n, rfl⟩ := Int.eq_ofNat_of_zero_le h0
  refine (PPolyPieces.bits_Of.calls 40 n w0 _ w (Pure.of_f n w0 (by omega))).mono ?_
  rintro e w' ⟨v, rfl, hr, hb⟩
  exact ⟨v, rfl, by rw [Int.toNat_natCast]; exact Own8.ofR hr, hb⟩

theorem ofV_bytes (n : Nat) (w0 : Int) : ∀ x ∈ ofV n w0, 0 ≤ x ∧ x ≤ 255 := by
  intro x hx
  simp only [ofV, Pure.ints, List.mem_map, Pure.bitsW] at hx
  obtain ⟨a, ⟨j, _, rfl⟩, rfl⟩ := hx
  have := Nat.mod_lt (n / 2 ^ ((min w0 32).toNat - 1 - j)) (show 0 < 2 by omega)
  constructor <;> (simp; try omega)

theorem crc15_any (A : Option Addr) (bl o c : Nat) (l : List Int) (w : World) (hl : Row8 w A bl o l) (hb : ∀ x ∈ l, 0 ≤ x ∧ x ≤ 255) :
    Calls Try.prog 10 #[.slice A l.length c] w fun e w' => e = .returned (.int .i64 (crc15V l)) ∧ Below w.heap.size w w' := by
  have HL := hid hl
  have HB := hid hb
  have hr := Pure.remV_range 15 17817 0 l
  clear hl hb
  unfold crc15V
  generalize hR : remV 15 17817 0 l = r at *
  have HR := hid hR
  clear hR
  go_enter Try.func10, Try.ntmps10
  go_wp2_with fail
  refine (rem_any 15 17817 0 A bl o c l _ (by omega) (by omega) (by omega) (by omega) HL.out HB.out).mono ?_
  rintro e w1 ⟨rfl, k1⟩
  rw [HR.out]
  have K1 := hid k1
  clear k1
  go_wp2_with fail
  go_ret
  exact ⟨rfl, K1.out⟩

/-- A row that begins on the way, to be read at each world behind. -/
theorem own_row_arm {X : Prop} {N : Nat} {wc w1 w2 : World} {v : Value} {l : List Int} (h : Hid (Below N wc w1) ∧ X) (k : Below w1.heap.size w1 w2) (hN : N ≤ wc.heap.size) (ho : Own8 w2 w1.heap.size v l) :
    Hid (Below N wc w2) ∧ ∃ A bl o c, v = .slice A l.length c ∧ Hid (Row8 w2 A bl o l) := by
  obtain ⟨A, bl, o, c, hv, _, hr, _⟩ := ho.row
  exact ⟨ext_next h hN k, A, bl, o, c, hv, hr⟩

set_option maxHeartbeats 1000000 in
theorem crc16_any (A : Option Addr) (bl o c : Nat) (l : List Int) (w : World) (hl : Row8 w A bl o l) (hb : ∀ x ∈ l, 0 ≤ x ∧ x ≤ 255) :
    Calls Try.prog 12 #[.slice A l.length c] w fun e w' => e = .returned (.int .i64 (crc16V l)) ∧ Below w.heap.size w w' := by
  have hlen := hl.1
  have HL := hid hl
  have HB := hid hb
  clear hl hb
  go_enter Try.func12, Try.ntmps12
  go_wp2_with fail
  have bk := Blk.new w #[.int .i64 16, .int .u32 4129] PT
  have B0 := hid bk
  have L0 := hid ((Below.refl w.heap.size w).alloc (Nat.le_refl _) (.cells #[.int .i64 16, .int .u32 4129] PT))
  clear bk
  go_loopg [4, 10] l.length (fun k v4 v10 wr => ∃ (i : Nat) (x : Int), i + k = l.length ∧ v10 = .int .i64 i ∧ v4 = .int .u32 x ∧ 0 ≤ x ∧ x ≤ 4294967295 ∧ Hid ((l.drop i).foldl (fun r c => remV 16 4129 r (ofV c.toNat 8)) x = crc16V l) ∧ Hid (Blk wr w.heap.size #[.int .i64 16, .int .u32 4129] PT) ∧ Hid (Below w.heap.size w wr))
  case atStart => exact ⟨0, 0, by omega, rfl, rfl, by omega, by omega, hid rfl, B0, L0⟩
  case round =>
    clear B0 L0
    obtain ⟨i, x, hik, rfl, rfl, hx0, hx1, HF, HK, HW⟩ := hrel
    by_cases hlt : i < l.length
    · obtain ⟨rfl, hbl⟩ := HL.out.2.1 (by omega)
      have hc : wr.cell? ⟨bl, o + i, none⟩ = some (.int .u8 (l.getD i 0)) := (HW.out.cell (p := ⟨bl, o + i, none⟩) hbl).trans (HL.out.2.2 i hlt)
      have hy := HB.out _ (List.getElem_mem hlt)
      rw [← getD_at hlt] at hy
      have hf := HF.out
      rw [List.drop_eq_getElem_cons hlt, ← getD_at hlt] at hf
      simp only [List.foldl_cons] at hf
      have HF' := hid hf
      clear hf HF
      generalize l.getD i 0 = y at *
      obtain ⟨hy0, hy1⟩ := hy
      have c0 := HK.out.cell 0 (.int .i64 16) rfl
      have c1 := HK.out.cell 1 (.int .u32 4129) rfl
      have hlt' := HK.out.lt
      have KS := hid (fun w' => keepP (N := wr.heap.size) (w' := w') hlt' c0 c1)
      have R0 := hid (Below.refl wr.heap.size wr)
      have hcv : IntKind.u32.wrap y = y := by rw [IntKind.wrap_u32']; omega
      have hrr := Pure.remV_range 16 4129 x (ofV y.toNat 8)
      generalize hx' : remV 16 4129 x (ofV y.toNat 8) = x' at *
      have HX := hid hx'
      clear hx'
      go_wp2_with fail
      go_region_held3 (fun w' => Hid (Below wr.heap.size wr w') ∧ w'.cell? ⟨w.heap.size, 0, none⟩ = some (.int .i64 16) ∧ w'.cell? ⟨w.heap.size, 1, none⟩ = some (.int .u32 4129)) (first | exact KS.out _ (by assumption) | exact KS.out _ (ext_drew (by assumption)))
        (first | (go_at_call 26; refine (of_any _ 8 _ (by omega) (by omega)).mono ?_; rintro e w2 ⟨v2, rfl, o2, k2⟩; obtain ⟨hq, A2, bl2, oo2, c2, rfl, r2⟩ := own_row_arm (by assumption) k2 (Nat.le_refl _) o2; clear k2 o2) | (go_at_call 9; refine (rem_any 16 4129 x _ _ _ _ _ _ (by omega) (by omega) hx0 hx1 (Hid.out (by assumption)) (ofV_bytes _ _)).mono ?_; rintro e w3 ⟨rfl, k3⟩; rw [HX.out]; have hq := ext_next (by assumption) (Nat.le_refl _) k3; clear k3))
      all_goals
        clear hcv
        go_wp2_with fail
        go_roundg (gk - 1)
        case rel => exact ⟨i + 1, x', by omega, by go_num, rfl, hrr.1, hrr.2, HF', blk_ext HK (by assumption), ext_hid HW HW.out.size (by assumption)⟩
        case measure => omega
    · have hi : (l.drop i).foldl (fun r c => remV 16 4129 r (ofV c.toNat 8)) x = x := by rw [List.drop_eq_nil_of_le (by omega)]; rfl
      have hh := HF.out
      rw [hi] at hh
      have HH := hid hh
      clear hi hh
      go_wp2_with fail
      go_ret
      exact ⟨by rw [← HH.out]; rfl, HW.out⟩

/-- A row that was just made. -/
theorem row_new {W : World} {cs : Array Value} {l : List Int} {b : Nat} (h : Blk W b cs U8) (hl : l.length ≤ 9223372036854775807) (hc : ∀ i, i < l.length → cs[i]? = some (.int .u8 (l.getD i 0))) : Row8 W (some ⟨b, 0, none⟩) b 0 l :=
  ⟨hl, fun _ => ⟨rfl, h.lt⟩, fun i hi => by rw [Nat.zero_add]; exact h.cell i _ (hc i hi)⟩

/-- A conversion of bytes to bytes: the same row. -/
theorem run_conv8 (w : World) (b len cap : Nat) (cs : Array Value) (h : Blk w b cs U8) :
    Sem.run Try.prog (convert 23 23 (.slice (some ⟨b, 0, none⟩) len cap)) w = .ok (.slice (some ⟨b, 0, none⟩) len cap) (w.freeze ⟨b, cs.size, none⟩ 1) := by
  have hsh : w.shape? b = some (U8, cs.size) := by unfold Blk at h; simp [World.shape?, h]
  simp [convert, run_underlying Try.underlying23, run_underlying Try.underlying5, markStringish, hsh]

set_option maxHeartbeats 1000000 in
theorem live_any (w : World) : Calls Try.prog 8 #[] w fun e w' => e = .returned (.bool true) ∧ Below w.heap.size w w' := by
  have E1 := hid Pure.crc16_live
  have E2 := hid Pure.rem_live
  have E3 := hid Pure.crc15_live
  have bk := Blk.new w #[.int .u8 49, .int .u8 50, .int .u8 51, .int .u8 52, .int .u8 53, .int .u8 54, .int .u8 55, .int .u8 56, .int .u8 57] U8
  have hrun := run_conv8 _ _ 9 9 _ bk
  have hrow : Row8 _ (some ⟨w.heap.size, 0, none⟩) w.heap.size 0 [49, 50, 51, 52, 53, 54, 55, 56, 57] := row_new bk (by decide) (fun i hi => by match i, hi with | 0, _ => rfl | 1, _ => rfl | 2, _ => rfl | 3, _ => rfl | 4, _ => rfl | 5, _ => rfl | 6, _ => rfl | 7, _ => rfl | 8, _ => rfl)
  have K0 := hid (below_freeze ((Below.refl w.heap.size w).alloc (Nat.le_refl _) (.cells #[.int .u8 49, .int .u8 50, .int .u8 51, .int .u8 52, .int .u8 53, .int .u8 54, .int .u8 55, .int .u8 56, .int .u8 57] U8)) ⟨w.heap.size, 9, none⟩ 1 (Nat.le_refl _))
  have HR : Hid (Row8 ((w.alloc (.cells #[.int .u8 49, .int .u8 50, .int .u8 51, .int .u8 52, .int .u8 53, .int .u8 54, .int .u8 55, .int .u8 56, .int .u8 57] U8)).freeze ⟨w.heap.size, 9, none⟩ 1) (some ⟨w.heap.size, 0, none⟩) w.heap.size 0 [49, 50, 51, 52, 53, 54, 55, 56, 57]) :=
    ⟨hrow.1, fun h => ⟨rfl, by rw [size_freeze]; exact (hrow.2.1 h).2⟩, fun i hi => by rw [cell_freeze]; exact hrow.2.2 i hi⟩
  clear bk hrow
  go_enter Try.func8, Try.ntmps8
  go_wp2_with fail
  refine (crc16_any _ _ _ 9 [49, 50, 51, 52, 53, 54, 55, 56, 57] _ HR.out (by decide)).mono ?_
  rintro e w1 ⟨rfl, k1⟩
  rw [E1.out]
  have K1 := hid (K0.out.trans (k1.mono (by have := K0.out.size; exact this)))
  clear k1 hrun K0 HR
  go_wp2_with fail
  refine (rem_any 3 3 0 _ _ _ 1 [1] _ (by omega) (by omega) (by omega) (by omega) (row_new (cs := #[.int .u8 1]) (Blk.new _ _ _) (by decide) (fun i hi => by cases i with | zero => rfl | succ i => simp at hi)) (by decide)).mono ?_
  rintro e w2 ⟨rfl, k2⟩
  rw [E2.out]
  have K2 := hid ((K1.out.alloc K1.out.size (.cells #[.int .u8 1] U8)).trans (k2.mono (by have := K1.out.size; simp; omega)))
  clear k2
  go_wp2_with fail
  refine (crc15_any _ _ _ 1 [1] _ (row_new (cs := #[.int .u8 1]) (Blk.new _ _ _) (by decide) (fun i hi => by cases i with | zero => rfl | succ i => simp at hi)) (by decide)).mono ?_
  rintro e w3 ⟨rfl, k3⟩
  rw [E3.out]
  have K3 := hid ((K2.out.alloc K2.out.size (.cells #[.int .u8 1] U8)).trans (k3.mono (by have := K2.out.size; simp; omega)))
  clear k3
  go_wp2_with fail
  go_ret
  exact ⟨rfl, K3.out⟩

end Go.Proofs.Ytjlhbgkmebinjaa
