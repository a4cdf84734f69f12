/- prod.Times: its contract as an iterator. -/
import Derived.RangeFuncBox
import Derived.RangeFuncLeaves
import Derived.RangeFuncWrites
import Derived.RangeFuncCalls
import Derived.RangeFuncNested
import Derived.Shelf.Abstract
import Derived.WalkKit
import Derived.OwnWalkIn
import Derived.TacticsInMore
import Derived.LoopNIn
import Derived.LoopIn
import Derived.Sort.QuietIn
import Derived.Test.YtbjfhdkgbhkodaaPSends
set_option linter.unusedSimpArgs false
set_option linter.unusedVariables false
set_option linter.unnecessarySimpa false
namespace Go.Proofs.Ytbjfhdkgbhkodaa
open Go.RowKit Go.Shelf
attribute [local go_sem] Oper.semAt_some
attribute [local go_sem ↓] ldC_in bxC_in stC_in

def upto {α : Type} (f : Nat → α) (k : Nat) : List α := (List.range k).map f
theorem upto_succ {α : Type} (f : Nat → α) (k : Nat) : upto f (k + 1) = upto f k ++ [f k] := by simp [upto, List.range_succ]
theorem upto_length {α : Type} (f : Nat → α) (k : Nat) : (upto f k).length = k := by simp [upto]
/-- One block stays as it is. -/
def RK (b : Nat) (W W' : World) : Prop := ∀ o, W.heap[b]? = some o → W'.heap[b]? = some o
theorem RK.refl (b : Nat) (W : World) : RK b W W := fun _ h => h
theorem RK.trans {b : Nat} {A B C : World} (h : RK b A B) (k : RK b B C) : RK b A C := fun o ho => k o (h o ho)
theorem RK.cell {b j : Nat} {W W' : World} {v : Value} (h : RK b W W') (hc : W.cell? ⟨b, j, none⟩ = some v) : W'.cell? ⟨b, j, none⟩ = some v := by
  cases ho : W.heap[b]? with
  | none => simp [World.cell?, ho] at hc
  | some o =>
    have := h o ho
    simp only [World.cell?, ho] at hc
    simp only [World.cell?, this]
    exact hc
/-- The ticks. -/
def tk (fr T : Int) (j : Nat) : Int := fr + j * T
theorem tk_succ (fr T : Int) (j : Nat) : tk fr T (j + 1) = tk fr T j + T := by
  unfold tk
  rw [Int.natCast_succ, Int.add_mul, Int.one_mul, Int.add_assoc]

set_option maxRecDepth 100000 in
set_option maxHeartbeats 2000000 in
theorem times1_in (n : Nat) (hn : 1 ≤ n) (l bx bf bt : Nat) (x : Ch) (fr to_ : Int) (hsn : x.snd = true) (hT1 : 1 ≤ x.at 1) (hT2 : x.at 1 ≤ 65535) (hf : 0 ≤ fr) (hto : to_ ≤ 2147483647) (hff : fr ≤ 2147483647) (J Jx : List Int → World → Prop) (hJ : ∀ s W W', J s W → Ext W W' → J s W')
    (hY : ∀ pre y W, J pre W → pre.length < 4294967296 → YieldAt Fence.wide (n - 1) Try.prog l #[.int .i64 y] W fun e W' =>
      (e = .returned (.bool true) ∧ J (pre ++ [y]) W' ∧ (RK bx W W' ∧ RK bf W W' ∧ RK bt W W')) ∨ (e = .returned (.bool false) ∧ Jx (pre ++ [y]) W'))
    (W : World) (hx : Blk W bx x.cells CT) (hbf : W.cell? ⟨bf, 0, none⟩ = some (.int .i64 fr)) (hbt : W.cell? ⟨bt, 0, none⟩ = some (.int .i64 to_)) (h0 : J [] W) :
    CallsIn Fence.wide n Try.prog 27 #[.func (.yield l) #[] #[], .pointer (some ⟨bx, 0, none⟩), .pointer (some ⟨bf, 0, none⟩), .pointer (some ⟨bt, 0, none⟩)] W fun e W' => (∃ v, e = .returned v) ∧
      ((∃ ys, (∃ k, ys = upto (tk fr (x.at 1)) k ∧ (∀ j, j < k → tk fr (x.at 1) j ≤ to_) ∧ to_ < tk fr (x.at 1) k) ∧ J ys W') ∨ (∃ pre, (∃ k, pre = upto (tk fr (x.at 1)) k ∧ ∀ j, j < k → tk fr (x.at 1) j ≤ to_) ∧ Jx pre W')) := by
  have lx := ldC_blk hx
  have SN := hid (fun w => psends_c x w)
  rw [hsn] at SN
  have e1 : decide (fr < 0) = false := by simp; omega
  have e2 : decide (2147483647 < to_) = false := by simp; omega
  refine callsIn_of_wp Try.func27 rfl trivial ?_ rfl
  simp only [Try.ntmps27, List.size_toArray, List.length_cons, List.length_nil, Nat.reduceAdd, Nat.reduceSub, Array.replicate_succ, Array.replicate_zero, List.push_toArray, List.append_toArray, List.nil_append, List.cons_append]
  gi_wp2_with (refine ⟨trivial, ?_⟩; gi_at_call 18; refine (callsIn_wide.2 (SN.out _)).mono ?_; rintro e w1 ⟨rfl, k1⟩; have hf1 := k1.cell hbf; have ht1 := k1.cell hbt)
  have hJ1 := hJ _ _ _ h0 k1
  have hx1 := k1.blk hx
  have KX : RK bx W w1 := fun o ho => (k1.block bx (Array.getElem?_eq_some_iff.1 ho).1).trans ho
  clear lx
  gi_loopw [5] (fun u5 wr => ∃ k : Nat, u5 = .int .i64 (tk fr (x.at 1) k) ∧ (∀ j, j < k → tk fr (x.at 1) j ≤ to_) ∧ k ≤ 2147483648 ∧ (k : Int) ≤ tk fr (x.at 1) k ∧ tk fr (x.at 1) k ≤ 2147549182 ∧ J (upto (tk fr (x.at 1)) k) wr ∧ RK bx w1 wr ∧ RK bf w1 wr ∧ RK bt w1 wr)
    (fun u5 _ => 2147549183 - (intOf u5).toNat)
  case atStart => exact ⟨0, by simp [tk], fun j hj => absurd hj (by omega), by omega, by simp [tk]; omega, by simp [tk]; omega, hJ1, RK.refl _ _, RK.refl _ _, RK.refl _ _⟩
  case round =>
    obtain ⟨k, rfl, hall, hk1, hk2, hk3, hJk, r1, r2, r3⟩ := hrel
    have ht2 := r3.cell ht1
    have hxT : w1.cell? ⟨bx, 1, none⟩ = some (.int .i64 (x.at 1)) := hx1.chat (j := 1) (by omega)
    have hsu := tk_succ fr (x.at 1) k
    generalize hT : tk fr (x.at 1) k = t at *
    by_cases hle : t ≤ to_
    · have e3 : decide (t ≤ to_) = true := by simpa using hle
      obtain ⟨fn, tmps, assign, body, hy, hR⟩ := hY _ t wr hJk (by rw [upto_length]; omega)
      gi_wp2
      refine hR.mono ?_
      rintro e W3 (⟨rfl, hJ3, q1, q2, q3⟩ | ⟨rfl, hJx3⟩)
      · have hx3 := q1.cell (r1.cell hxT)
        have hw : IntKind.i64.wrap (t + x.at 1) = t + x.at 1 := IntWalk.i64_in _ (by omega)
        gi_wp2
        go_roundw
        case rel => exact ⟨k + 1, by rw [hsu], (fun j hj => by
          by_cases h : j < k
          · exact hall j h
          · have : j = k := by omega
            subst this
            rw [hT]
            exact hle), by omega, by rw [hsu]; omega, by rw [hsu]; omega, by rw [upto_succ, hT]; exact hJ3, r1.trans q1, r2.trans q2, r3.trans q3⟩
        case measure => simp [intOf]; omega
      · gi_wp2
        refine bodyPost_ret (results_none rfl _ _ _) rfl ?_
        exact ⟨⟨_, rfl⟩, .inr ⟨_, ⟨k + 1, by rw [upto_succ, hT], fun j hj => by
          by_cases h : j < k
          · exact hall j h
          · have : j = k := by omega
            subst this
            rw [hT]
            exact hle⟩, hJx3⟩⟩
    · have e3 : decide (t ≤ to_) = false := by simpa using hle
      gi_wp2
      go_end0
      exact ⟨⟨_, rfl⟩, .inl ⟨_, ⟨k, rfl, hall, by rw [hT]; omega⟩, hJk⟩⟩

/-- A table that does not send: no round. -/
theorem times0_in (n : Nat) (hn : 1 ≤ n) (l bx bf bt : Nat) (x : Ch) (hsn : x.snd = false) (J : List Int → World → Prop) (hJ : ∀ s W W', J s W → Ext W W' → J s W') (W : World) (hx : Blk W bx x.cells CT) (h0 : J [] W) :
    CallsIn Fence.wide n Try.prog 27 #[.func (.yield l) #[] #[], .pointer (some ⟨bx, 0, none⟩), .pointer (some ⟨bf, 0, none⟩), .pointer (some ⟨bt, 0, none⟩)] W fun e W' => (∃ v, e = .returned v) ∧ J [] W' := by
  have lx := ldC_blk hx
  have SN := hid (fun w => psends_c x w)
  rw [hsn] at SN
  refine callsIn_of_wp Try.func27 rfl trivial ?_ rfl
  simp only [Try.ntmps27, List.size_toArray, List.length_cons, List.length_nil, Nat.reduceAdd, Nat.reduceSub, Array.replicate_succ, Array.replicate_zero, List.push_toArray, List.append_toArray, List.nil_append, List.cons_append]
  gi_wp2_with (refine ⟨trivial, ?_⟩; gi_at_call 18; refine (callsIn_wide.2 (SN.out _)).mono ?_; rintro e w1 ⟨rfl, k1⟩)
  have hJ1 := hJ _ _ _ h0 k1
  refine bodyPost_ret (results_none rfl _ _ _) rfl ?_
  exact ⟨⟨_, rfl⟩, hJ1⟩
/-- What abides, abides what a callee makes. -/
theorem abides_ext {β : Type} {B : Nat} {J : β → World → Prop} (h : AbidesFrom B J) {s : β} {W W' : World} (hs : J s W) (k : Ext W W') : J s W' :=
  h s W W' none hs ⟨k.os, k.tape, k.output, k.size, fun i hi _ => k.block i hi⟩ (fun r e => by cases e)

/-- The iterator, as a contract. -/
theorem times_stops (n : Nat) (hn : 1 ≤ n) (bx bf bt : Nat) (x : Ch) (fr to_ : Int) (hf : 0 ≤ fr) (hto : to_ ≤ 2147483647) (hff : fr ≤ 2147483647) (w : World) (hx : Blk w bx x.cells CT) (hbf : w.cell? ⟨bf, 0, none⟩ = some (.int .i64 fr)) (hbt : w.cell? ⟨bt, 0, none⟩ = some (.int .i64 to_)) (hlf : bf < w.heap.size) (hlt : bt < w.heap.size) :
    SeqStopsK Fence.wide n Try.prog 27 #[.pointer (some ⟨bx, 0, none⟩), .pointer (some ⟨bf, 0, none⟩), .pointer (some ⟨bt, 0, none⟩)] (fun y : Int => #[Value.int .i64 y]) (fun W W' => RK bx W W' ∧ RK bf W W' ∧ RK bt W W')
      (fun ys => (x.snd = true ∧ ∃ k, ys = upto (tk fr (x.at 1)) k ∧ (∀ j, j < k → tk fr (x.at 1) j ≤ to_) ∧ to_ < tk fr (x.at 1) k) ∨ (x.snd = false ∧ ys = [])) (fun pre => x.snd = true ∧ ∃ k, pre = upto (tk fr (x.at 1)) k ∧ ∀ j, j < k → tk fr (x.at 1) j ≤ to_) 4294967296 w := fun l J Jx W hW hJ _ hY h0 => by
  have hxW : Blk W bx x.cells CT := (hW.block bx hx.lt).trans hx
  have hfW := (hW.cell (p := ⟨bf, 0, none⟩) hlf).trans hbf
  have htW := (hW.cell (p := ⟨bt, 0, none⟩) hlt).trans hbt
  cases hs : x.snd
  · refine (times0_in n hn l bx bf bt x hs J (fun s A B h k => ?_) W hxW h0).mono fun e W' ⟨he, hj⟩ => ⟨he, .inl ⟨[], .inr ⟨rfl, rfl⟩, hj⟩⟩
    exact abides_ext hJ h k
  · obtain ⟨_, t1, t2, _⟩ := (by
      have h := hs
      unfold Ch.snd sndB at h
      simp only [Bool.and_eq_true, decide_eq_true_iff] at h
      exact ⟨h.1, h.2.1, h.2.2.1, trivial⟩ : x.at 0 = 1 ∧ 1 ≤ x.at 1 ∧ x.at 1 ≤ 65535 ∧ True)
    refine (times1_in n hn l bx bf bt x fr to_ hs t1 t2 hf hto hff J Jx (fun s A B h k => abides_ext hJ h k) hY W hxW hfW htW h0).mono ?_
    rintro e W' ⟨he, ⟨ys, hk, hj⟩ | ⟨pre, hk, hj⟩⟩
    · exact ⟨he, .inl ⟨ys, .inl ⟨rfl, hk⟩, hj⟩⟩
    · exact ⟨he, .inr ⟨pre, ⟨rfl, hk⟩, hj⟩⟩

attribute [local go_sem] bxC_ch
set_option maxHeartbeats 1000000 in
theorem times_in (n : Nat) (x : Ch) (fr to_ : Int) (w : World) :
    CallsIn Fence.wide n Try.prog 15 #[x.val, .int .i64 fr, .int .i64 to_] w fun e w' => e = .returned (.func (.func 27) #[] #[.pointer (some ⟨w.heap.size, 0, none⟩), .pointer (some ⟨w.heap.size + 1, 0, none⟩), .pointer (some ⟨w.heap.size + 1 + 1, 0, none⟩)]) ∧ w' = ((w.alloc (.cells x.cells CT)).alloc (.cells #[.int .i64 fr] 3)).alloc (.cells #[.int .i64 to_] 3) := by
  refine callsIn_of_wp Try.func15 rfl trivial ?_ rfl
  simp only [Try.ntmps15, List.size_toArray, List.length_cons, List.length_nil, Nat.reduceAdd, Nat.reduceSub, Array.replicate_succ, Array.replicate_zero, List.push_toArray, List.append_toArray, List.nil_append, List.cons_append]
  gi_wp2
  go_ret
  exact ⟨rfl, rfl⟩

end Go.Proofs.Ytbjfhdkgbhkodaa
