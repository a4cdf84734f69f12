/- A sender of blocks: its small functions. -/
import Derived.Test.YtpdomjinhbnmfaaSeg
import Derived.Test.YtpdomjinhbnmfaaPol
set_option linter.unusedSimpArgs false
set_option linter.unusedVariables false
set_option linter.unnecessarySimpa false
set_option maxRecDepth 100000
namespace Go.Proofs.Ytpdomjinhbnmfaa
open Go.RowKit Go.Proofs.YtpdomjinhbnmfaaW.PrintWords
open Go.Proofs.Ytpdomjinhbnmfaa.Pure (crc16V)
attribute [local go_sem] max2_max min2_min max_of_two min_of_two alL_v bdL_none bdL_one bxL_ln lnguard_eq lnguard_ne lnbin_eq lnbin_ne
attribute [local go_sem ↓] ldL_in bxL_in stL_in alL_in bdL_in cvS_in
attribute [local go_sem ↓] ap8_in

abbrev ST : TypeId := 72
structure Sd where
  size : Int
  n : Int
  b : List Int
  done : Int
def Sd.cells (s : Sd) (u : Value) : Array Value := #[.int .i64 s.size, .int .i64 s.n, u, .int .i64 s.done]
def SdAt (w : World) (g : Nat) (u : Value) (s : Sd) : Prop := Blk w g (s.cells u) ST ∧ Bs w u s.b ∧ s.b.length ≤ 64
def nseg (b : List Int) : Nat := max 1 ((b.length + 6) / 7)
theorem SdAt.ext {a w : World} {g : Nat} {u : Value} {s : Sd} (h : SdAt a g u s) (k : Ext a w) : SdAt w g u s := ⟨k.blk h.1, h.2.1.ext k, h.2.2⟩
theorem bool_eq {a b : Bool} : a = b ↔ a = b := Iff.rfl
def mayN (n : Int) : Bool := decide (1 ≤ n) && decide (n ≤ 127)
theorem may_c (n : Int) (w : World) : Calls Try.prog 26 #[.int .i64 n] w fun e w' => e = .returned (.bool (mayN n)) ∧ w = w' := by
  by_cases h0 : 1 ≤ n
  · have e1 : decide (1 ≤ n) = true := by simpa using h0
    have e3 : mayN n = decide (n ≤ 127) := by unfold mayN; rw [e1]; rfl
    rw [e3]
    clear e3 h0
    go_enter Try.func26, Try.ntmps26
    go_wp2_with fail
    go_ret
    exact ⟨rfl, rfl⟩
  · have e1 : decide (1 ≤ n) = false := by simpa using h0
    have e3 : mayN n = false := by unfold mayN; rw [e1]; rfl
    rw [e3]
    clear e3 h0
    go_enter Try.func26, Try.ntmps26
    go_wp2_with fail
    go_ret
    exact ⟨rfl, rfl⟩
theorem all_c (g : Nat) (A : Option Addr) (L c : Nat) (w : World) (h : w.cell? ⟨g, 2, none⟩ = some (.slice A L c)) (hL : L ≤ 64) :
    Calls Try.prog 27 #[.pointer (some ⟨g, 0, none⟩)] w fun e w' => e = .returned (.int .i64 ((max 1 ((L + 6) / 7) : Nat) : Int)) ∧ w = w' := by
  have w1 : IntKind.i64.wrap ((L : Int) + 7) = (L : Int) + 7 := IntWalk.i64_in _ (by omega)
  have w2 : IntKind.i64.wrap ((L : Int) + 7 - 1) = ((L + 6 : Nat) : Int) := (IntWalk.i64_in _ (by omega)).trans (by omega)
  have w3 : Int.tdiv ((L + 6 : Nat) : Int) 7 = (((L + 6) / 7 : Nat) : Int) := by rw [Int.tdiv_eq_ediv_of_nonneg (by omega)]; omega
  have w4 : IntKind.i64.wrap (((L + 6) / 7 : Nat) : Int) = (((L + 6) / 7 : Nat) : Int) := IntWalk.i64_in _ (by omega)
  have w5 : max 1 (((L + 6) / 7 : Nat) : Int) = ((max 1 ((L + 6) / 7) : Nat) : Int) := by omega
  go_enter Try.func27, Try.ntmps27
  go_wp2_with fail
  go_ret
  exact ⟨congrArg (fun z => Ending.returned (.int .i64 z)) (show max 1 (((L : Int) + 6) / 7) = _ from by omega), rfl⟩
theorem next_c (g : Nat) (s : Sd) (u : Value) (n : Int) (w : World) (h : Blk w g (s.cells u) ST) :
    Calls Try.prog 30 #[.pointer (some ⟨g, 0, none⟩), .int .i64 n] w fun e w' => e = .returned (.tuple #[]) ∧ Blk w' g (Sd.cells ⟨n, 0, s.b, s.done⟩ u) ST ∧ Only g w w' := by
  have c0 := h.cell 0 _ rfl
  have c1 := h.cell 1 _ rfl
  have z0 := h.free 0
  have z1 := h.free 1
  have HP := hid ((h.set 0 (.int .i64 n)).set 1 (.int .i64 0))
  have KP := hid (((Only.refl g w).set 0 (.int .i64 n)).set 1 (.int .i64 0))
  clear h
  go_enter Try.func30, Try.ntmps30
  go_wp2_with fail
  go_end0
  exact ⟨rfl, HP.out, KP.out⟩
theorem crc_c (u : Value) (l : List Int) (w : World) (h : Bs w u l) : Calls Try.prog 17 #[u] w fun e w' => e = .returned (.int .i64 (crc16V l)) ∧ Ext w w' := by
  obtain ⟨A, bl, o, c, rfl, _, hr, hb⟩ := h
  have CR := hid (fun w (hr : Row8 w A bl o l) => crc16_any A bl o c l w hr hb)
  have HR := hid hr
  clear hr hb
  go_enter Try.func17, Try.ntmps17
  go_wp2_with fail
  (with_reducible refine (CR.out _ HR.out).mono ?_); rintro e w1 ⟨rfl, k1⟩
  go_wp2_with fail
  go_ret
  exact ⟨rfl, k1⟩
theorem newsend_no (u : Value) (b : List Int) (size : Int) (w : World) (hu : Bs w u b) (hn : mayN size = false ∨ 64 < b.length) :
    Calls Try.prog 6 #[u, .int .i64 size] w fun e w' => e = .returned (.tuple #[.pointer none, .int .i64 2]) ∧ w = w' := by
  obtain ⟨A, bl, o, c, rfl, _, hr, hb⟩ := hu
  have MC := hid (fun w => may_c size w)
  by_cases hm : mayN size = true
  · have e2 : decide (64 < (b.length : Int)) = true := by
      rcases hn with h | h
      · rw [hm] at h; cases h
      · simp; omega
    rw [hm] at MC
    clear hn hr hb hm
    go_enter Try.func6, Try.ntmps6
    go_wp2_with fail
    (with_reducible refine (MC.out _).mono ?_); rintro e w1 ⟨rfl, rfl⟩
    go_wp2_with fail
    go_ret2
    exact ⟨rfl, rfl⟩
  · have hm' : mayN size = false := by simpa using hm
    rw [hm'] at MC
    clear hn hr hb hm hm'
    go_enter Try.func6, Try.ntmps6
    go_wp2_with fail
    (with_reducible refine (MC.out _).mono ?_); rintro e w1 ⟨rfl, rfl⟩
    go_wp2_with fail
    go_ret2
    exact ⟨rfl, rfl⟩
theorem newsend_c (u : Value) (b : List Int) (size : Int) (w : World) (hu : Bs w u b) (hm : mayN size = true) (hl : b.length ≤ 64) :
    Calls Try.prog 6 #[u, .int .i64 size] w fun e w' => ∃ g v, e = .returned (.tuple #[.pointer (some ⟨g, 0, none⟩), .int .i64 0]) ∧ SdAt w' g v ⟨size, 0, b, 0⟩ ∧ w.heap.size ≤ g ∧ Ext w w' := by
  obtain ⟨A, c, rfl⟩ := hu.form
  have MC := hid (fun w => may_c size w)
  have HU := hid hu
  have HL := hid hl
  have hl2 : (List.length ([] : List Int)) + b.length ≤ 140737488355328 := by simp; omega
  have e2 : decide (64 < (b.length : Int)) = false := by simp; omega
  have on := hid (Own8.nil w w.heap.size)
  rw [hm] at MC
  clear hu hl hm
  go_enter Try.func6, Try.ntmps6
  go_wp2_with fail
  (with_reducible refine (MC.out _).mono ?_); rintro e w1 ⟨rfl, rfl⟩
  have EE := Ext.refl w
  go_wp2_with (at_builtin; go_must (refine app8r rfl (.const (.slice none 0 0)) (.tmp 16) rfl w.heap.size rfl rfl HU.out on.out hl2 (Nat.le_refl _) ?_); intro v2 w2 o2 k2 kk2; have ho := (Bs.own o2 (show Byt ([] ++ b) from HU.out.byt) : Bs w2 v2 b); obtain ⟨A2, c2, hv2⟩ := ho.form; subst hv2; have HO := hid ho; have K2 := hid k2; clear o2 k2 kk2 ho)
  go_ret2
  exact ⟨_, _, rfl, ⟨Blk.new w2 _ ST, HO.out.ext ((Ext.refl w2).alloc), HL.out⟩, K2.out.size, Ext.alloc K2.out⟩

end Go.Proofs.Ytpdomjinhbnmfaa
