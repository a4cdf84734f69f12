import Derived.Test.YtjlhbgkmebinjaaSeal
import Derived.Test.YtjlhbgkmebinjaaPure4
import Derived.RegionTactic
import Derived.OpenShut
set_option linter.unusedSimpArgs false
set_option linter.unusedVariables false
set_option linter.unnecessarySimpa false
namespace Go.Proofs.Ytjlhbgkmebinjaa
open Go.RowKit Go.Proofs.YtjlhbgkmebinjaaW.PrintWords
open Go.Proofs.Ytjlhbgkmebinjaa.Pure (foldO nat fd ps remV wholeV ofV crc16V crc15V sumR)
attribute [local go_sem] max2_max min2_min max_of_two min_of_two

/-- The sealed row is whole. -/
theorem plain_like (l : List Int) (hb : ∀ x ∈ l, 0 ≤ x ∧ x ≤ 255) : Pure.Like (nat (plain l)) (nat l) := by
  refine ⟨by simp [nat, plain], fun i => ?_⟩
  rw [Pure.nat_get, Pure.nat_get]
  by_cases hi : i < l.length
  · have e : (plain l).getD i 0 = Go.bits .and .u8 (l.getD i 0) 1 := by
      simp [plain, List.getD_eq_getElem?_getD, hi]
    rw [e]
    have hx := hb (l.getD i 0) (by rw [getD_at hi]; exact List.getElem_mem _)
    obtain ⟨n, hn⟩ := Int.eq_ofNat_of_zero_le hx.1
    rw [hn] at hx ⊢
    have : ∀ n : Fin 256, (Go.bits .and .u8 ((n.val : Nat) : Int) 1).toNat % 2 = n.val % 2 := by decide +kernel
    have h := this ⟨n, by omega⟩
    simp only [Int.toNat_natCast]
    exact h
  · have e1 : (plain l).getD i 0 = 0 := by
      rw [List.getD_eq_getElem?_getD, List.getElem?_eq_none (by rw [plain_len]; omega)]; rfl
    have e2 : l.getD i 0 = 0 := by
      rw [List.getD_eq_getElem?_getD, List.getElem?_eq_none (by omega)]; rfl
    rw [e1, e2]

theorem nat_of (n : Nat) (W : Int) (hW : W ≤ 31) : nat (ofV n W) = Pure.bitsW W.toNat n := by
  unfold ofV
  rw [Pure.nat_ints]
  congr 1
  omega

theorem sealed_zero (W L R : Int) (l : List Int) (hm : Pure.mayP W L = true) (hb : ∀ x ∈ l, 0 ≤ x ∧ x ≤ 255) (hR : remV W L 0 l = R) : wholeV W L (plain l ++ ofV R.toNat W) = 0 := by
  obtain ⟨hW0, hW1, hLW⟩ := Pure.mayP_iff.1 hm
  unfold remV at hR
  rw [if_pos hm] at hR
  unfold wholeV
  rw [if_pos hm, Pure.nat_append, nat_of _ _ hW1]
  have e := Pure.fold_fd_like W.toNat L.toNat 0 (plain_like l hb)
  have h0 : (0 : Int).toNat % 2 ^ W.toNat = 0 := by simp
  rw [h0, ← e] at hR
  have hR' : R.toNat = (nat (plain l)).foldl (fd W.toNat L.toNat) 0 := by omega
  rw [hR', Pure.fold_seal W.toNat L.toNat (by omega) hLW]
  rfl

theorem sealed_bytes (W R : Int) (l : List Int) : ∀ x ∈ plain l ++ ofV R.toNat W, 0 ≤ x ∧ x ≤ 255 := by
  intro x hx
  rcases List.mem_append.1 hx with h | h
  · simp only [plain, List.mem_map] at h
    obtain ⟨y, _, rfl⟩ := h
    exact wf_u8 (wf_bits .and .u8 y 1)
  · simp only [ofV, Pure.ints, Pure.bitsW, List.mem_map] at h
    obtain ⟨y, ⟨j, _, rfl⟩, rfl⟩ := h
    have : R.toNat / 2 ^ ((min W 32).toNat - 1 - j) % 2 < 2 := Nat.mod_lt _ (by omega)
    simp only [Int.ofNat_eq_natCast]
    omega

/-- What the turned row comes to. -/
theorem seals_last (W L : Int) (n a t i : Nat) (S X : List Int) (sm : Bool) (hm : Pure.mayP W L = true) (hodd : L.toNat % 2 = 1) (hS : wholeV W L S = 0) (hb : ∀ x ∈ S, 0 ≤ x ∧ x ≤ 255) (hSn : S.length = n) (hXn : X.length = n)
    (hX : ∀ k, X.getD k 0 = if a ≤ k ∧ k < a + i ∧ t / 2 ^ (k - a) % 2 = 1 then (1 - S.getD k 0) % 256 else S.getD k 0) (hin : ∀ j, j < i → a + j < n) (hi : i ≤ W.toNat) (hsm : sm = true ↔ ∃ j, j < i ∧ t / 2 ^ j % 2 = 1) : (wholeV W L X == 0) = !sm := by
  obtain ⟨hW0, hW1, hLW⟩ := Pure.mayP_iff.1 hm
  unfold wholeV at hS ⊢
  rw [if_pos hm] at hS ⊢
  have hS' : (nat S).foldl (ps W.toNat L.toNat) 0 = 0 := by omega
  let T : List Nat := (List.range n).map fun k => if a ≤ k ∧ k < a + i ∧ t / 2 ^ (k - a) % 2 = 1 then 1 else 0
  have hTn : T.length = n := by simp [T]
  have hTg : ∀ k, T.getD k 0 = if k < n ∧ a ≤ k ∧ k < a + i ∧ t / 2 ^ (k - a) % 2 = 1 then 1 else 0 := by
    intro k
    by_cases hk : k < n
    · simp [T, List.getD_eq_getElem?_getD, List.getElem?_map, List.getElem?_range hk, hk]
    · rw [Pure.getD_far (by omega), if_neg (by omega)]
  have hl : (nat S).length = T.length := by rw [hTn, ← hSn]; simp [nat]
  have hlike : Pure.Like (nat X) (Pure.addR (nat S) T) := by
    refine ⟨by rw [Pure.addR_len hl]; simp [nat]; omega, fun k => ?_⟩
    rw [Pure.addR_get k hl, Pure.nat_get, Pure.nat_get, hX k, hTg k]
    by_cases hk : k < n
    · have hs := hb (S.getD k 0) (by rw [getD_at (by omega)]; exact List.getElem_mem _)
      by_cases hc : a ≤ k ∧ k < a + i ∧ t / 2 ^ (k - a) % 2 = 1
      · rw [if_pos hc, if_pos ⟨hk, hc⟩]; omega
      · rw [if_neg hc, if_neg (by rintro ⟨_, h⟩; exact hc h)]; omega
    · have e : S.getD k 0 = 0 := by rw [List.getD_eq_getElem?_getD, List.getElem?_eq_none (by omega)]; rfl
      by_cases hc : a ≤ k ∧ k < a + i ∧ t / 2 ^ (k - a) % 2 = 1
      · have := hin (k - a) (by omega); omega
      · rw [if_neg hc, if_neg (by rintro ⟨_, h⟩; exact hc h)]; omega
  have hx : (nat X).foldl (ps W.toNat L.toNat) 0 = T.foldl (ps W.toNat L.toNat) 0 := by
    rw [Pure.fold_ps_like _ _ 0 hlike]
    have h0 : (0 : Nat) = 0 ^^^ 0 := by simp
    rw [h0, Pure.fold_ps_xor _ _ _ _ 0 0 hl, hS']
    simp
  rw [hx]
  have hbst := Pure.burst W.toNat L.toNat a T (by omega) hLW hodd (fun j hj => by rw [hTg]; rw [if_neg]; rintro ⟨_, h1, h2, _⟩; omega)
  rw [Bool.eq_iff_iff, beq_iff_eq, Bool.not_eq_true', ← Bool.not_eq_true, hsm]
  have hz : (((T.foldl (ps W.toNat L.toNat) 0 : Nat) : Int) = 0) ↔ T.foldl (ps W.toNat L.toNat) 0 = 0 := by omega
  rw [hz, hbst]
  constructor
  · rintro h ⟨j, hj, hjt⟩
    have := h (a + j)
    rw [hTg, if_pos ⟨hin j hj, by omega, by omega, by rw [Nat.add_sub_cancel_left]; exact hjt⟩] at this
    omega
  · intro h k
    rw [hTg, if_neg]
    rintro ⟨h1, h2, h3, h4⟩
    exact h ⟨k - a, by omega, h4⟩

/-- '[]byte{}'. -/
theorem own8_new (W : World) (base : Nat) (h : base ≤ W.heap.size) : Own8 (W.alloc (.cells #[] U8)) base (.slice (some ⟨W.heap.size, 0, none⟩) 0 0) [] :=
  ⟨rfl, .inr ⟨W.heap.size, 0, #[], rfl, h, Blk.new W #[] U8, Nat.le_refl _, Nat.zero_le _, rfl, rfl⟩⟩

set_option maxHeartbeats 2000000 in
theorem seals_no (W L : Int) (A : Option Addr) (c : Nat) (l : List Int) (x t : Int) (w : World) (h0 : 0 ≤ L) (h1 : L ≤ 4294967295) (hm : Pure.mayP W L = false) :
    Calls Try.prog 7 #[.int .i64 W, .int .u32 L, .slice A l.length c, .int .u8 x, .int .u32 t] w fun e w' => e = .returned (.bool true) ∧ Below w.heap.size w w' := by
  have HM := hid (Pure.refmay_f W L h0)
  rw [hm] at HM
  have HS := hid hm
  clear hm
  go_enter Try.func7, Try.ntmps7
  go_wp2_with fail
  refine (seal_no W L A c l _ h0 h1 HS.out).mono ?_
  rintro e w1 ⟨rfl, k1⟩
  have K1 := hid (((Below.refl w.heap.size w).alloc (Nat.le_refl _) (.cells #[.int .i64 W, .int .u32 L] PT)).trans (k1.mono (by simp)))
  clear k1
  go_wp2_with fail
  refine (PMay.tripwireref03_May.calls 40 W L false _ HM.out).mono ?_
  rintro e w2 ⟨rfl, k2⟩
  have K2 := hid (K1.out.trans (k2.below.mono K1.out.size))
  clear k2
  go_wp2_with fail
  refine (live_any _).mono ?_
  rintro e w3 ⟨rfl, k3⟩
  have K3 := hid (K2.out.trans (k3.mono K2.out.size))
  go_wp2_with fail
  go_ret
  exact ⟨rfl, K3.out⟩

set_option maxRecDepth 100000 in
set_option maxHeartbeats 4000000 in
theorem seals_yes (W L R : Int) (A : Option Addr) (bl o c : Nat) (l : List Int) (x t : Nat) (w : World) (h0 : 0 ≤ L) (h1 : L ≤ 4294967295) (hx1 : x ≤ 255) (ht1 : t ≤ 4294967295) (hm : Pure.mayP W L = true) (hl : Row8 w A bl o l) (hb : ∀ x ∈ l, 0 ≤ x ∧ x ≤ 255) (hsz : l.length ≤ 140737488351232) (hR : remV W L 0 l = R) :
    Calls Try.prog 7 #[.int .i64 W, .int .u32 L, .slice A l.length c, .int .u8 (x : Int), .int .u32 (t : Int)] w fun e w' => e = .returned (.bool true) ∧ Below w.heap.size w w' := by
  obtain ⟨hW0, hW1, hLW⟩ := Pure.mayP_iff.1 hm
  have HM := hid (Pure.refmay_f W L h0)
  rw [hm] at HM
  have HS := hid hm
  have HB := hid hb
  have HL := hid hl
  have HR := hid hR
  clear hm hb hl hR
  go_enter Try.func7, Try.ntmps7
  go_wp2_with fail
  have HL1 := hid (HL.out.below ((Below.refl w.heap.size w).alloc (Nat.le_refl _) (.cells #[.int .i64 W, .int .u32 L] PT)))
  have bk := Blk.new w #[.int .i64 W, .int .u32 L] PT
  refine (seal_yes W L R A bl o c l _ h0 h1 HS.out HL1.out HB.out hsz HR.out).mono ?_
  rintro e w1 ⟨v, rfl, o1, k1⟩
  have BK1 := hid (bk.below k1 (by simp))
  have K1 := hid (((Below.refl w.heap.size w).alloc (Nat.le_refl _) (.cells #[.int .i64 W, .int .u32 L] PT)).trans (k1.mono (by simp)))
  have O1 := hid (o1.lower (by simp : w.heap.size + 1 ≤ _))
  clear k1 o1 bk
  have HLN : (plain l ++ ofV R.toNat W).length = l.length + W.toNat := by
    rw [List.length_append, plain_len]
    simp [ofV, Pure.ints_length, Pure.bitsW_len]; omega
  obtain ⟨n, hn⟩ : ∃ n, (plain l ++ ofV R.toNat W).length = n := ⟨_, rfl⟩
  rw [hn] at HLN
  have HZ := hid (sealed_zero W L R l HS.out HB.out HR.out)
  have HSB := hid (sealed_bytes W R l)
  have d1 : IntKind.i64.wrap ((n : Int) - (l.length : Int)) = W := by rw [IntWalk.i64_in] <;> omega
  have HLn := hid HLN
  generalize plain l ++ ofV R.toNat W = S at *
  obtain ⟨As, bs, os, cs, es, hcs, hrs, hbs⟩ := O1.out.row
  rw [hn] at es hcs hbs
  subst es
  have HSR := hid hrs
  have HSn := hid hn
  clear hrs hn HLN
  go_wp2_with fail
  refine (PMay.tripwireref03_May.calls 40 W L true _ HM.out).mono ?_
  rintro e w2 ⟨rfl, k2⟩
  have K2 := hid (K1.out.trans (k2.below.mono K1.out.size))
  have HSR2 := hid (HSR.out.below k2.below)
  have BK2 := hid (BK1.out.below k2.below BK1.out.lt)
  clear k2
  have c0 := BK2.out.cell 0 (.int .i64 W) rfl
  have c1 := BK2.out.cell 1 (.int .u32 L) rfl
  go_wp2_with fail
  refine (whole_len W L 0 As bs os cs n S _ h0 h1 HSR2.out HSB HSn HZ).mono ?_
  rintro e w3 ⟨rfl, k3⟩
  have K3 := hid (K2.out.trans (k3.mono K2.out.size))
  have HSR3 := hid (HSR2.out.below k3)
  have BK3 := hid (BK2.out.below k3 BK2.out.lt)
  clear k3 c0 c1
  have hcl := hid (HSn.out)
  have hnl : n ≤ 140737488355328 := by have := HLn.out; omega
  have hsz3 := K3.out.size
  have hsz4 := BK3.out.lt
  obtain ⟨rfl, _⟩ := HSR3.out.2.1 (by have := HLn.out; have := HSn.out; omega)
  go_wp2_with (first | (refine app8_all (l := []) (m := S) (c := cs) rfl (.tmp 45) (.tmp 46) rfl w3.heap.size rfl (by rw [HSn.out]; rfl) (own8_new w3 w3.heap.size (Nat.le_refl _)) (fun i hi => (Row8.below HSR3.out ((Below.refl w3.heap.size w3).alloc (Nat.le_refl _) _)).2.2 i hi) (by rw [HSn.out]; simp; omega) (by simp) ?_; intro v4 w4 o4 k4 _; have O4 := hid o4; have K4 := hid k4; clear o4 k4))
  have hn0 : 0 < n := by have := HLn.out; omega
  obtain ⟨g, c4, e4, hg1, hg2, hg3, hat⟩ := O4.out.at_ (by simp; have := HSn.out; omega)
  rw [List.nil_append, HSn.out] at e4 hg3
  subst e4
  have O5 : Hid (Own8 w4 w3.heap.size (.slice (some ⟨g, 0, none⟩) n c4) S) := O4.out
  have hg0 : w.heap.size ≤ g := by omega
  have hgne : w.heap.size ≠ g := by omega
  have BK4 := hid ((BK3.out.alloc (.cells #[] 5)).below K4.out BK3.out.lt)
  have K5 := hid (K3.out.trans (((Below.refl w3.heap.size w3).alloc (Nat.le_refl _) _ |>.trans K4.out).mono hsz3))
  clear O4 hat
  go_loopg [14, 15] (W.toNat + 1) (fun k v14 v15 wr => ∃ (i : Nat) (X : List Int) (sm : Bool), i + k = W.toNat + 1 ∧ v14 = .bool sm ∧ v15 = .int .i64 i ∧ Hid (X.length = n ∧ ∀ k, X.getD k 0 = if x ≤ k ∧ k < x + i ∧ t / 2 ^ (k - x) % 2 = 1 then (1 - S.getD k 0) % 256 else S.getD k 0) ∧ Hid (∀ j, j < i → x + j < n) ∧ Hid (i ≤ W.toNat) ∧ Hid (sm = true ↔ ∃ j, j < i ∧ t / 2 ^ j % 2 = 1) ∧ Hid (Own8 wr w3.heap.size (.slice (some ⟨g, 0, none⟩) n c4) X) ∧ Hid (Blk wr w.heap.size #[.int .i64 W, .int .u32 L] PT) ∧ Hid (Below w.heap.size w wr))
  case atStart => exact ⟨0, S, false, by omega, rfl, rfl, hid ⟨HSn.out, fun k => by rw [if_neg (by omega)]⟩, hid (by omega), hid (by omega), hid (by simp), O5, BK4, K5⟩
  case round =>
    clear O5 BK4 K5 K4 BK3 K3 HSR3 BK2 K2 HSR2 HSR O1 K1 BK1
    obtain ⟨i, X, sm, hik, rfl, rfl, HX, HIN, HI, HSM, HO, BK, HB'⟩ := hrel
    have hw1 : IntKind.i64.wrap ((n : Int) - (x : Int)) = (n : Int) - x := by rw [IntWalk.i64_in] <;> omega
    have hw2 : IntKind.i64.wrap ((x : Int) + (i : Int)) = ((x + i : Nat) : Int) := by rw [IntWalk.i64_in] <;> omega
    by_cases hgo : (i : Int) < W ∧ (i : Int) < (n : Int) - x
    · obtain ⟨hgo1, hgo2⟩ := hgo
      have d2 : decide ((i : Int) < W) = true := by simpa using hgo1
      have d3 : decide ((i : Int) < (n : Int) - x) = true := by simpa using hgo2
      obtain ⟨g', c', e', _, hgr, _, hat⟩ := HO.out.at_ (by have := HX.out.1; omega)
      obtain ⟨rfl, _⟩ : g = g' ∧ True := by
        simp only [Value.slice.injEq, Option.some.injEq, Addr.mk.injEq] at e'
        exact ⟨e'.1.1, trivial⟩
      obtain ⟨cz, fz, sz⟩ := hat (x + i) (by have := HX.out.1; omega)
      have hxi : X.getD (x + i) 0 = S.getD (x + i) 0 := by rw [HX.out.2, if_neg (by omega)]
      rw [hxi] at cz
      have hsb := HSB.out (S.getD (x + i) 0) (by rw [getD_at (by have := HSn.out; omega)]; exact List.getElem_mem _)
      have hbit : ((t : Int) / 2 ^ i).tmod 2 = ((t / 2 ^ i % 2 : Nat) : Int) := by
        have e : ((t : Int) / 2 ^ i) = ((t / 2 ^ i : Nat) : Int) := by simp
        rw [e]
        generalize t / 2 ^ i = q
        rw [Int.tmod_eq_emod_of_nonneg (by omega)]
        omega
      by_cases hb1 : t / 2 ^ i % 2 = 1
      · have d4 : (((t : Int) / 2 ^ i).tmod 2 == 1) = true := by rw [hbit, hb1]; rfl
        have hw3 : IntKind.u8.wrap (1 - S.getD (x + i) 0) = (1 - S.getD (x + i) 0) % 256 := by rw [IntKind.wrap_u8]
        have SZ := hid (sz ((1 - S.getD (x + i) 0) % 256))
        have HX' : Hid ((X.set (x + i) ((1 - S.getD (x + i) 0) % 256)).length = n ∧ ∀ k, (X.set (x + i) ((1 - S.getD (x + i) 0) % 256)).getD k 0 = if x ≤ k ∧ k < x + (i + 1) ∧ t / 2 ^ (k - x) % 2 = 1 then (1 - S.getD k 0) % 256 else S.getD k 0) := by
          refine hid ⟨by rw [List.length_set]; exact HX.out.1, fun k => ?_⟩
          have h := HX.out.2 k
          have hl := HX.out.1
          rw [List.getD_eq_getElem?_getD] at h
          rw [List.getD_eq_getElem?_getD (l := X.set (x + i) _), List.getElem?_set]
          by_cases hj : x + i = k
          · subst hj
            rw [if_pos rfl, if_pos (by omega), if_pos ⟨by omega, by omega, by rw [Nat.add_sub_cancel_left]; exact hb1⟩]
            rfl
          · rw [if_neg hj, h]
            by_cases h1 : x ≤ k ∧ k < x + i ∧ t / 2 ^ (k - x) % 2 = 1
            · rw [if_pos h1, if_pos ⟨h1.1, by omega, h1.2.2⟩]
            · rw [if_neg h1, if_neg (by rintro ⟨q1, q2, q3⟩; exact h1 ⟨q1, by omega, q3⟩)]
        have HSM' : Hid (true = true ↔ ∃ j, j < i + 1 ∧ t / 2 ^ j % 2 = 1) := hid ⟨fun _ => ⟨i, by omega, hb1⟩, fun _ => rfl⟩
        generalize X.set (x + i) ((1 - S.getD (x + i) 0) % 256) = X' at *
        generalize (1 - S.getD (x + i) 0) % 256 = y at *
        generalize S.getD (x + i) 0 = sv at *
        clear sz hat e' hxi hbit
        have k0 : (0 : Int) ≤ (x : Int) + (i : Int) := by omega
        have k1 : (x : Int) + (i : Int) < (n : Int) := by omega
        go_wp2_with fail
        go_roundg (gk - 1)
        case rel =>
          exact ⟨i + 1, X', true, by omega, rfl, by go_num, HX', hid (by intro j hj; have := HIN.out j; by_cases h : j = i <;> omega), hid (by omega), hid ⟨fun _ => ⟨i, by omega, hb1⟩, fun _ => rfl⟩, SZ, hid (BK.out.other ⟨g, x + i, none⟩ _ hgne), hid (HB'.out.setCell hg0 _)⟩
        case measure => omega
      · have d4 : (((t : Int) / 2 ^ i).tmod 2 == 1) = false := by rw [hbit]; exact beq_false_of_ne (by omega)
        have HX' : Hid (X.length = n ∧ ∀ k, X.getD k 0 = if x ≤ k ∧ k < x + (i + 1) ∧ t / 2 ^ (k - x) % 2 = 1 then (1 - S.getD k 0) % 256 else S.getD k 0) := by
          refine hid ⟨HX.out.1, fun k => ?_⟩
          rw [HX.out.2 k]
          by_cases h1 : x ≤ k ∧ k < x + i ∧ t / 2 ^ (k - x) % 2 = 1
          · rw [if_pos h1, if_pos ⟨h1.1, by omega, h1.2.2⟩]
          · rw [if_neg h1, if_neg]
            rintro ⟨q1, q2, q3⟩
            by_cases hk : k = x + i
            · subst hk; rw [Nat.add_sub_cancel_left] at q3; exact hb1 q3
            · exact h1 ⟨q1, by omega, q3⟩
        have HSM' : Hid (sm = true ↔ ∃ j, j < i + 1 ∧ t / 2 ^ j % 2 = 1) := by
          refine hid (HSM.out.trans ⟨?_, ?_⟩)
          · rintro ⟨j, h1, h2⟩; exact ⟨j, by omega, h2⟩
          · rintro ⟨j, h1, h2⟩
            by_cases hj : j = i
            · subst hj; exact absurd h2 hb1
            · exact ⟨j, by omega, h2⟩
        clear sz hat e' hxi hbit cz
        go_wp2_with fail
        go_roundg (gk - 1)
        case rel =>
          exact ⟨i + 1, X, sm, by omega, rfl, by go_num, HX', hid (by intro j hj; have := HIN.out j; by_cases h : j = i <;> omega), hid (by omega), HSM', HO, BK, HB'⟩
        case measure => omega
    · have HXB : Hid (∀ x ∈ X, 0 ≤ x ∧ x ≤ 255) := by
        refine hid (fun y hy => ?_)
        obtain ⟨k, hk, rfl⟩ := List.getElem_of_mem hy
        have h := HX.out.2 k
        rw [getD_at hk] at h
        rw [h]
        have hs := HSB.out (S.getD k 0) (by rw [getD_at (by have := HX.out.1; have := HSn.out; omega)]; exact List.getElem_mem _)
        split <;> omega
      have HFIN : Hid (L.toNat % 2 = 1 → (wholeV W L X == 0) = !sm) := hid (fun h => seals_last W L n x t i S X sm HS.out h HZ.out HSB.out HSn.out HX.out.1 HX.out.2 HIN.out HI.out HSM.out)
      have HXn := hid HX.out.1
      obtain ⟨As, bs', os', cs', es, _, hrs, _⟩ := HO.out.row
      obtain ⟨e1, e2⟩ : (some ⟨g, 0, none⟩ : Option Addr) = As ∧ c4 = cs' := by
        simp only [Value.slice.injEq] at es
        exact ⟨es.1, es.2.2⟩
      have HRS : Hid (Row8 wr (some ⟨g, 0, none⟩) bs' os' X) := by rw [e1]; exact hrs
      clear HX HO es hrs e1 e2 HIN HSM HSB
      have c0 := BK.out.cell 0 (.int .i64 W) rfl
      have c1 := BK.out.cell 1 (.int .u32 L) rfl
      generalize hq : wholeV W L X = q at *
      have HQ := hid hq
      have hgo' : decide ((i : Int) < W) = false ∨ (decide ((i : Int) < W) = true ∧ decide ((i : Int) < (n : Int) - x) = false) := by
        by_cases h1 : (i : Int) < W
        · exact .inr ⟨by simpa using h1, by simp; omega⟩
        · exact .inl (by simpa using h1)
      have hlow : L % 2 = 0 ∨ (¬ L % 2 = 0 ∧ (q == 0) = !sm) := by
        by_cases h1 : L % 2 = 0
        · exact .inl h1
        · exact .inr ⟨h1, HFIN.out (by omega)⟩
      clear hgo hq HFIN
      rcases hgo' with d2 | ⟨d2, d3⟩
      all_goals
        rcases hlow with d5 | ⟨d5, d6⟩
        all_goals
          go_wp2_with fail
          refine (live_any _).mono ?_
          rintro e w5 ⟨rfl, k5⟩
          have K5 := hid (HB'.out.trans (k5.mono HB'.out.size))
          have HRS5 := hid (HRS.out.below k5)
          have BK5 := hid (BK.out.below k5 BK.out.lt)
          have c0' := BK5.out.cell 0 (.int .i64 W) rfl
          have c1' := BK5.out.cell 1 (.int .u32 L) rfl
          clear k5
          go_wp2_with fail
          all_goals first
          | (go_ret; exact ⟨rfl, K5.out⟩)
          | (refine (whole_len W L q _ bs' os' _ n X _ h0 h1 HRS5.out HXB HXn HQ).mono ?_
             rintro e w6 ⟨rfl, k6⟩
             have K6 := hid (K5.out.trans (k6.mono K5.out.size))
             clear k6
             go_wp2_with fail
             go_ret
             exact ⟨by first | rfl | simp [*], K6.out⟩)

theorem seals_entry (v0 v1 v2 v3 v4 : Value) (W : World) {base : Nat} (h0 : Rd Try.prog W 3 v0.cells.toList) (o0 : Value.okWide Try.prog W .any base 3 v0)
    (h1 : Rd Try.prog W 22 v1.cells.toList) (o1 : Value.okWide Try.prog W .any base 22 v1)
    (h2 : Rd Try.prog W 23 v2.cells.toList) (o2 : Value.okWide Try.prog W .any base 23 v2)
    (h3 : Rd Try.prog W 5 v3.cells.toList) (o3 : Value.okWide Try.prog W .any base 5 v3)
    (h4 : Rd Try.prog W 22 v4.cells.toList) (o4 : Value.okWide Try.prog W .any base 22 v4) :
    Calls Try.prog 7 #[v0, v1, v2, v3, v4] W fun e w' => e = .returned (.bool true) ∧ Below W.heap.size W w' := by
  obtain ⟨wd, rfl, _⟩ := opn_int Try.underlying3 h0 o0
  obtain ⟨lw, rfl, wl⟩ := opn_int Try.underlying22 h1 o1
  obtain ⟨A, bl, o, l, c, rfl, hlc, hcm, hre, _, hrow, hb⟩ := opn_bytes Try.underlying23 Try.underlying5 (by kernel_rfl) (by kernel_rfl) h2 o2
  obtain ⟨x, rfl, wx⟩ := opn_int Try.underlying5 h3 o3
  obtain ⟨t, rfl, wt⟩ := opn_int Try.underlying22 h4 o4
  have hl := wf_u32 wl
  have hx := wf_u8 wx
  have ht := wf_u32 wt
  cases hm : Pure.mayP wd lw with
  | false => exact seals_no wd lw A c l x t W hl.1 hl.2 hm
  | true =>
    obtain ⟨xn, rfl⟩ := Int.eq_ofNat_of_zero_le hx.1
    obtain ⟨tn, rfl⟩ := Int.eq_ofNat_of_zero_le ht.1
    exact seals_yes wd lw _ A bl o c l xn tn W hl.1 hl.2 (by omega) (by omega) hm hrow hb (Nat.le_trans hre (by decide)) rfl

end Go.Proofs.Ytjlhbgkmebinjaa
