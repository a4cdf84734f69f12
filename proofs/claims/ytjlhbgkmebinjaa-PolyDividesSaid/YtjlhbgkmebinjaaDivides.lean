/- The law 'PolyDivides'. -/
import Derived.Test.YtjlhbgkmebinjaaRefs
set_option linter.unusedSimpArgs false
set_option linter.unusedVariables false
set_option linter.unnecessarySimpa false
namespace Go.Proofs.Ytjlhbgkmebinjaa
open Go.RowKit Go.Proofs.YtjlhbgkmebinjaaW.PrintWords
open Go.Proofs.Ytjlhbgkmebinjaa.Pure (foldO nat fd ps remV wholeV ofV crc16V crc15V sumR md2)
attribute [local go_sem] max2_max min2_min max_of_two min_of_two

theorem plain_md2 (l : List Int) (hb : ∀ x ∈ l, 0 ≤ x ∧ x ≤ 255) : plain l = md2 l := by
  unfold plain md2
  refine List.map_congr_left (fun x hx => ?_)
  have h := hb x hx
  obtain ⟨n, rfl⟩ := Int.eq_ofNat_of_zero_le h.1
  have : ∀ n : Fin 256, Go.bits .and .u8 ((n.val : Nat) : Int) 1 = Int.tmod ((n.val : Nat) : Int) 2 := by decide +kernel
  exact this ⟨n, by omega⟩

theorem next_b {w w1 w2 : World} (h : Hid (Below w.heap.size w w1)) (k : Below w1.heap.size w1 w2) : Hid (Below w.heap.size w w2) := h.out.trans (k.mono h.out.size)
theorem row_b {A : Option Addr} {bl o : Nat} {l : List Int} {w1 w2 : World} (h : Hid (Row8 w1 A bl o l)) (k : Hid (Below w1.heap.size w1 w2)) : Hid (Row8 w2 A bl o l) := h.out.below k.out

set_option maxHeartbeats 2000000 in
theorem divides_long (W L s : Int) (A : Option Addr) (n c : Nat) (w : World) (h : 200 < n) : Calls Try.prog 6 #[.int .i64 W, .int .u32 L, .int .u32 s, .slice A n c] w fun e w' => e = .returned (.bool true) ∧ Below w.heap.size w w' := by
  have d1 : decide ((n : Int) > 200) = true := by simp; omega
  go_enter Try.func6, Try.ntmps6
  go_wp2_with fail
  refine (live_any _).mono ?_
  rintro e w1 ⟨rfl, k1⟩
  have K1 := hid k1
  clear k1
  go_wp2_with fail
  go_ret
  exact ⟨rfl, K1.out⟩

set_option maxHeartbeats 4000000 in
theorem divides_no (W L s : Int) (A : Option Addr) (bl o n c : Nat) (l : List Int) (w : World) (hn : Hid (l.length = n)) (hsh : n ≤ 200) (h0 : 0 ≤ L) (h1 : L ≤ 4294967295) (hs0 : 0 ≤ s) (hs1 : s ≤ 4294967295) (hm : Pure.mayP W L = false) (hl : Hid (Row8 w A bl o l)) (hb : Hid (∀ x ∈ l, 0 ≤ x ∧ x ≤ 255)) :
    Calls Try.prog 6 #[.int .i64 W, .int .u32 L, .int .u32 s, .slice A n c] w fun e w' => e = .returned (.bool true) ∧ Below w.heap.size w w' := by
  have d1 : decide ((n : Int) > 200) = false := by simp; omega
  have HM := hid (Pure.refmay_f W L h0)
  rw [hm] at HM
  have HMB : Hid (mayB W L = false) := hm
  have HW : Hid (wholeV W L l = 0) := by unfold Hid wholeV; rw [if_neg (by rw [hm]; exact Bool.false_ne_true)]
  have HR : Hid (remV W L s l = 0) := by unfold Hid remV; rw [if_neg (by rw [hm]; exact Bool.false_ne_true)]
  have HS := hid hm
  clear hm
  go_enter Try.func6, Try.ntmps6
  go_wp2_with fail
  have bk := Blk.new w #[.int .i64 W, .int .u32 L] PT
  have c0 := bk.cell 0 (.int .i64 W) rfl
  have c1 := bk.cell 1 (.int .u32 L) rfl
  have K0 := hid ((Below.refl w.heap.size w).alloc (Nat.le_refl _) (.cells #[.int .i64 W, .int .u32 L] PT))
  have HL0 := hid (hl.out.below K0.out)
  have hlt : w.heap.size < (w.alloc (.cells #[.int .i64 W, .int .u32 L] PT)).heap.size := by simp
  have KS := hid (fun w' => keepP (N := (w.alloc (.cells #[.int .i64 W, .int .u32 L] PT)).heap.size) (w' := w') hlt c0 c1)
  clear bk c0 c1
  generalize w.alloc (.cells #[.int .i64 W, .int .u32 L] PT) = w0 at *
  have R0 := hid (Below.refl w0.heap.size w0)
  refine (PMay.tripwireref03_May.calls 40 W L false _ HM.out).mono ?_
  rintro e w1 ⟨rfl, k1⟩
  have R1 := next_b R0 k1.below
  obtain ⟨_, c0, c1⟩ := KS.out _ R1
  clear k1 R0
  go_wp2_with fail
  all_goals
    (with_reducible refine (live_any _).mono ?_)
    rintro e w2 ⟨rfl, k⟩
    have R2 := next_b R1 k
    obtain ⟨_, c0, c1⟩ := KS.out _ R2
    clear k R1
    try rw [HMB.out]
    go_wp2_with fail
  all_goals
    (with_reducible refine (may_any W L _ h0 h1).mono ?_)
    rintro e w3 ⟨rfl, k⟩
    have R3 := next_b R2 k
    obtain ⟨_, c0, c1⟩ := KS.out _ R3
    clear k R2
    try rw [HMB.out]
    go_wp2_with fail
  all_goals
    (with_reducible refine (whole_len W L 0 A bl o c n l _ h0 h1 (row_b HL0 R3).out hb hn HW).mono ?_)
    rintro e w4 ⟨rfl, k⟩
    have R4 := next_b R3 k
    obtain ⟨_, c0, c1⟩ := KS.out _ R4
    clear k R3
    try rw [HMB.out]
    go_wp2_with fail
  all_goals
    (with_reducible refine (rem_len W L s 0 A bl o c n l _ h0 h1 hs0 hs1 (row_b HL0 R4).out hb hn HR).mono ?_)
    rintro e w5 ⟨rfl, k⟩
    have R5 := next_b R4 k
    obtain ⟨_, c0, c1⟩ := KS.out _ R5
    clear k R4
    try rw [HMB.out]
    go_wp2_with fail
  all_goals
    have hsn := seal_no W L A c l w5 h0 h1 HS.out
    rw [hn.out] at hsn
    (with_reducible refine hsn.mono ?_)
    rintro e w6 ⟨rfl, k⟩
    have R6 := next_b R5 k
    clear k
    go_wp2_with fail
    go_ret
    exact ⟨rfl, K0.out.trans (R6.out.mono K0.out.size)⟩

set_option maxRecDepth 100000 in
set_option maxHeartbeats 8000000 in
theorem divides_yes (W L s : Nat) (A : Option Addr) (bl o n c : Nat) (l : List Int) (w : World) (hn : Hid (l.length = n)) (hc : n ≤ c) (hsh : n ≤ 200) (hW : 1 ≤ W) (hW2 : W ≤ 31) (hL : L < 2 ^ W) (hs : s < 4294967296) (hl : Hid (Row8 w A bl o l)) (hb : Hid (∀ x ∈ l, 0 ≤ x ∧ x ≤ 255)) :
    Calls Try.prog 6 #[.int .i64 (W : Int), .int .u32 (L : Int), .int .u32 (s : Int), .slice A n c] w fun e w' => e = .returned (.bool true) ∧ Below w.heap.size w w' := by
  have hp31 := Pure.pow31 hW2
  have h0 : 0 ≤ (L : Int) := by omega
  have h1 : (L : Int) ≤ 4294967295 := by omega
  have hs0 : 0 ≤ (s : Int) := by omega
  have hs1 : (s : Int) ≤ 4294967295 := by omega
  have hm : Pure.mayP (W : Int) (L : Int) = true := Pure.mayP_iff.2 ⟨by omega, by omega, by simpa using hL⟩
  have d1 : decide ((n : Int) > 200) = false := by simp; omega
  have HM := hid (Pure.refmay_f W L h0)
  rw [hm] at HM
  have HMB : Hid (mayB (W : Int) (L : Int) = true) := hm
  have HWv : Hid (wholeV (W : Int) (L : Int) l = (((nat l).foldl (ps W L) 0 : Nat) : Int)) := by unfold Hid wholeV; rw [if_pos hm]; rfl
  have HRv : Hid (remV (W : Int) (L : Int) (s : Int) l = (((nat l).foldl (fd W L) (s % 2 ^ W) : Nat) : Int)) := by unfold Hid remV; rw [if_pos hm]; rfl
  have HR0 : remV (W : Int) (L : Int) 0 l = (((nat l).foldl (fd W L) (0 % 2 ^ W) : Nat) : Int) := by unfold remV; rw [if_pos hm]; rfl
  have hlt0 := Pure.fold_lt (f := fd W L) (N := 2 ^ W) (fun r b => Pure.fd_lt hL) (nat l) (0 % 2 ^ W) (Nat.mod_lt _ (Nat.two_pow_pos _))
  have HS := hid hm
  clear hm
  generalize hq0 : (nat l).foldl (fd W L) (0 % 2 ^ W) = q0 at *
  generalize hq1 : (nat l).foldl (fd W L) (s % 2 ^ W) = q1 at *
  generalize hq2 : (nat l).foldl (ps W L) 0 = q2 at *
  have Q0 := hid hq0
  have Q1 := hid hq1
  have Q2 := hid hq2
  have HZ := hid HR0
  have hq0lt : q0 < 4294967296 := by omega
  have hn1 : n ≤ 10000000 := by omega
  have hn2 : n ≤ 100000000 := by omega
  clear hq0 hq1 hq2 HR0 hlt0
  go_enter Try.func6, Try.ntmps6
  go_wp2_with fail
  have bk := Blk.new w #[.int .i64 (W : Int), .int .u32 (L : Int)] PT
  have c0 := bk.cell 0 (.int .i64 (W : Int)) rfl
  have c1 := bk.cell 1 (.int .u32 (L : Int)) rfl
  have K0 := hid ((Below.refl w.heap.size w).alloc (Nat.le_refl _) (.cells #[.int .i64 (W : Int), .int .u32 (L : Int)] PT))
  have HL0 := hid (hl.out.below K0.out)
  have hlt : w.heap.size < (w.alloc (.cells #[.int .i64 (W : Int), .int .u32 (L : Int)] PT)).heap.size := by simp
  have KS := hid (fun w' => keepP (N := (w.alloc (.cells #[.int .i64 (W : Int), .int .u32 (L : Int)] PT)).heap.size) (w' := w') hlt c0 c1)
  clear bk c0 c1
  generalize w.alloc (.cells #[.int .i64 (W : Int), .int .u32 (L : Int)] PT) = w0 at *
  have R0 := hid (Below.refl w0.heap.size w0)
  refine (PMay.tripwireref03_May.calls 40 W L true _ HM.out).mono ?_
  rintro e w1 ⟨rfl, k1⟩
  have R1 := next_b R0 k1.below
  clear k1 R0
  go_wp2_with fail
  refine (rrem_any W L 0 A bl o c n l _ hL hW hW2 (by omega) (row_b HL0 R1) hn hc hn1 hb).mono ?_
  rintro e w2 ⟨rfl, k⟩
  rw [Q0.out]
  have R2 := next_b R1 k
  clear k R1
  go_wp2_with fail
  refine (rplain_any A bl o c n l _ (row_b HL0 R2) (by rw [hn.out]; exact hc) hn (by rw [hn.out]; omega)).mono ?_
  rintro e w3 ⟨v3, rfl, o3, k⟩
  have R3 := next_b R2 k
  have O3 := hid (o3.lower R2.out.size)
  clear k R2 o3
  go_wp2_with fail
  refine (rof_any q0 W _ hq0lt).mono ?_
  rintro e w4 ⟨v4, rfl, o4, k⟩
  obtain ⟨A4, b4, o4', c4, rfl, hc4, r4, _⟩ := o4.row
  have R4 := next_b R3 k
  have O4 := hid (O3.out.below k)
  have HR4 := hid r4
  clear k R3 o4 r4 O3
  have hofl : (ofV q0 W).length = W := by simp [ofV, Pure.ints_length, Pure.bitsW_len]; omega
  rw [hofl]
  have HOF := hid hofl
  have hlen : (md2 l).length + W ≤ 140737488355328 := by rw [Pure.md2_len, hn.out]; omega
  have hbase := R4.out.size
  clear hofl
  go_wp2_with (first | (refine app8_row rfl (.tmp 54) (.tmp 57) rfl w0.heap.size rfl rfl HOF.out O4.out HR4.out hlen hbase ?_; intro v5 w5 o5 k5; have O5 := hid o5; have R5 := hid (R4.out.trans k5); clear o5 k5))
  clear O4 HR4 R4 hlen hbase
  obtain ⟨_, c0, c1⟩ := KS.out _ R5
  have hS : md2 l ++ ofV q0 W = plain l ++ ofV (remV (W : Int) (L : Int) 0 l).toNat W := by rw [HZ.out, plain_md2 l hb.out]; rfl
  have HSE := hid hS
  have hSl : (md2 l ++ ofV q0 W).length = n + W := by rw [List.length_append, Pure.md2_len, hn.out, HOF.out]
  obtain ⟨N, hN⟩ : ∃ N, n + W = N := ⟨_, rfl⟩
  rw [hN] at hSl
  have HSl := hid hSl
  have hNs : N ≤ 140737488355328 := by omega
  clear hS hSl hN
  generalize md2 l ++ ofV q0 W = S at *
  go_wp2_with fail
  all_goals
    (with_reducible refine (live_any _).mono ?_)
    rintro e w6 ⟨rfl, k⟩
    have R6 := next_b R5 k
    have O6 := hid (O5.out.below k)
    obtain ⟨_, c0, c1⟩ := KS.out _ R6
    clear k R5 O5
    go_wp2_with fail
  all_goals
    (with_reducible refine (may_any W L _ h0 h1).mono ?_)
    rintro e w7 ⟨rfl, k⟩
    rw [HMB.out]
    have R7 := next_b R6 k
    have O7 := hid (O6.out.below k)
    obtain ⟨_, c0, c1⟩ := KS.out _ R7
    clear k R6 O6
    go_wp2_with fail
  all_goals
    (with_reducible refine (whole_len W L q2 A bl o c n l _ h0 h1 (row_b HL0 R7).out hb hn HWv).mono ?_)
    rintro e w8 ⟨rfl, k⟩
    have R8 := next_b R7 k
    have O8 := hid (O7.out.below k)
    obtain ⟨_, c0, c1⟩ := KS.out _ R8
    clear k R7 O7
    go_wp2_with fail
  all_goals
    have hdv := rdivide_any L W A bl o c n l w8 hL hW hW2 (row_b HL0 R8) hn hc hn2 hb
    rw [Q2.out] at hdv
    (with_reducible refine hdv.mono ?_)
    rintro e w9 ⟨rfl, k⟩
    have R9 := next_b R8 k
    have O9 := hid (O8.out.below k)
    obtain ⟨_, c0, c1⟩ := KS.out _ R9
    clear k R8 O8 hdv
    go_wp2_with fail
  all_goals
    (with_reducible refine (rem_len W L s q1 A bl o c n l _ h0 h1 hs0 hs1 (row_b HL0 R9).out hb hn HRv).mono ?_)
    rintro e w10 ⟨rfl, k⟩
    have R10 := next_b R9 k
    have O10 := hid (O9.out.below k)
    obtain ⟨_, c0, c1⟩ := KS.out _ R10
    clear k R9 O9
    go_wp2_with fail
  all_goals
    have hrm := rrem_any W L s A bl o c n l w10 hL hW hW2 hs (row_b HL0 R10) hn hc hn1 hb
    rw [Q1.out] at hrm
    (with_reducible refine hrm.mono ?_)
    rintro e w11 ⟨rfl, k⟩
    have R11 := next_b R10 k
    have O11 := hid (O10.out.below k)
    obtain ⟨_, c0, c1⟩ := KS.out _ R11
    clear k R10 O10 hrm
    go_wp2_with fail
  all_goals
    have hse := seal_yes W L _ A bl o c l w11 h0 h1 HS.out (row_b HL0 R11).out hb.out (by rw [hn.out]; omega) rfl
    rw [hn.out, ← HSE.out] at hse
    (with_reducible refine hse.mono ?_)
    rintro e w12 ⟨v12, rfl, o12, k⟩
    have R12 := next_b R11 k
    have O12 := hid (O11.out.below k)
    obtain ⟨A1, b1, q1', cc1, rfl, hcc1, r1, _⟩ := o12.row
    obtain ⟨A2, b2, q2', cc2, rfl, hcc2, r2, _⟩ := O12.out.row
    have HR1 := hid r1
    have HR2 := hid r2
    rw [HSl.out]
    clear k R11 O11 hse
    go_wp2_with fail
  all_goals
    have hsm := rsame_any A1 A2 b1 q1' cc1 b2 q2' cc2 N S S w12 HR1 HR2 rfl hcc1 hcc2 HSl (by rw [HSl.out]; exact hNs)
    (with_reducible refine hsm.mono ?_)
    rintro e w13 ⟨rfl, k⟩
    have R13 := next_b R12 k
    clear k
    go_wp2_with fail
    go_ret
    exact ⟨rfl, K0.out.trans (R13.out.mono K0.out.size)⟩

theorem divides_entry (v0 v1 v2 v3 : Value) (W : World) {base : Nat} (h0 : Rd Try.prog W 3 v0.cells.toList) (o0 : Value.okWide Try.prog W .any base 3 v0)
    (h1 : Rd Try.prog W 22 v1.cells.toList) (o1 : Value.okWide Try.prog W .any base 22 v1)
    (h2 : Rd Try.prog W 22 v2.cells.toList) (o2 : Value.okWide Try.prog W .any base 22 v2)
    (h3 : Rd Try.prog W 23 v3.cells.toList) (o3 : Value.okWide Try.prog W .any base 23 v3) :
    Calls Try.prog 6 #[v0, v1, v2, v3] W fun e w' => e = .returned (.bool true) ∧ Below W.heap.size W w' := by
  obtain ⟨wd, rfl, _⟩ := opn_int Try.underlying3 h0 o0
  obtain ⟨lw, rfl, wl⟩ := opn_int Try.underlying22 h1 o1
  obtain ⟨s, rfl, ws⟩ := opn_int Try.underlying22 h2 o2
  obtain ⟨A, bl, o, l, c, rfl, hlc, hcm, hre, _, hrow, hb⟩ := opn_bytes Try.underlying23 Try.underlying5 (by kernel_rfl) (by kernel_rfl) h3 o3
  have hl := wf_u32 wl
  have hs := wf_u32 ws
  by_cases hlong : 200 < l.length
  · exact divides_long wd lw s A l.length c W hlong
  · cases hm : Pure.mayP wd lw with
    | false => exact divides_no wd lw s A bl o l.length c l W (hid rfl) (by omega) hl.1 hl.2 hs.1 hs.2 hm (hid hrow) (hid hb)
    | true =>
      obtain ⟨hW0, hW1, hLW⟩ := Pure.mayP_iff.1 hm
      obtain ⟨wn, rfl⟩ := Int.eq_ofNat_of_zero_le (show 0 ≤ wd by omega)
      obtain ⟨ln, rfl⟩ := Int.eq_ofNat_of_zero_le hl.1
      obtain ⟨sn, rfl⟩ := Int.eq_ofNat_of_zero_le hs.1
      exact divides_yes wn ln sn A bl o l.length c l W (hid rfl) hlc (by omega) (by omega) (by omega) (by simpa using hLW) (by omega) (hid hrow) (hid hb)

end Go.Proofs.Ytjlhbgkmebinjaa
