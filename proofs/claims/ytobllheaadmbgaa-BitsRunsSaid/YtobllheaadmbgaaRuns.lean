/- bits.Runs: its contract as an iterator. -/
import Derived.RangeFuncBox
import Derived.RangeFuncLeaves
import Derived.RangeFuncWrites
import Derived.RangeFuncCalls
import Derived.Shelf.Abstract
import Derived.WalkKit
import Derived.OwnWalkIn
import Derived.TacticsInMore
import Derived.LoopNIn
import Derived.LoopIn
import Derived.Sort.QuietIn
import Derived.Laws.BitsAllLaws
import Derived.Test.YtobllheaadmbgaaAuto
set_option linter.unusedSimpArgs false
set_option linter.unusedVariables false
set_option linter.unnecessarySimpa false
namespace Go.Proofs.Ytobllheaadmbgaa
open Go.RowKit Go.Shelf
attribute [local go_sem] Oper.semAt_some

theorem same_par {x y : Int} (h0 : 0 ≤ x) (h1 : x ≤ 255) (g0 : 0 ≤ y) (g1 : y ≤ 255) : (Go.bits .and .u8 (Go.bits .xor .u8 x y) 1 == 0) = decide (x % 2 = y % 2) := by
  obtain ⟨p, rfl⟩ := Int.eq_ofNat_of_zero_le h0
  obtain ⟨q, rfl⟩ := Int.eq_ofNat_of_zero_le g0
  have hp : p < 256 := by omega
  have hq : q < 256 := by omega
  have hz : p ^^^ q < 256 := Nat.xor_lt_two_pow (n := 8) hp hq
  rw [u8_xor_nat p q hp hq, and1 (by omega) (by omega)]
  have h2 : (p ^^^ q) % 2 = (p % 2 + q % 2) % 2 := by
    have t := Nat.testBit_xor p q 0
    simp only [Nat.testBit_zero] at t
    rcases Nat.mod_two_eq_zero_or_one p with e1 | e1 <;> rcases Nat.mod_two_eq_zero_or_one q with e2 | e2 <;> rcases Nat.mod_two_eq_zero_or_one (p ^^^ q) with e3 | e3 <;> rw [e1, e2, e3] at t <;> rw [e1, e2, e3] <;> first | rfl | (exfalso; revert t; decide)
  by_cases h : (p : Int) % 2 = (q : Int) % 2
  · rw [decide_eq_true h]
    have : (((p ^^^ q : Nat) : Int)) % 2 = 0 := by omega
    rw [this]
    rfl
  · rw [decide_eq_false h]
    have : (((p ^^^ q : Nat) : Int)) % 2 = 1 := by omega
    rw [this]
    rfl

/-- Runs of a row: how far they reach, and the last one's bit. -/
inductive Rn (l : List Int) : List (Int × Int) → Nat → Int → Prop
  | nil : Rn l [] 0 2
  | snoc {pre : List (Int × Int)} {at_ : Nat} {last c : Int} {n : Nat} : Rn l pre at_ last → 1 ≤ n → at_ + n ≤ l.length → c ≠ last → c ≤ 1 → (∀ i, i < n → l.getD (at_ + i) 0 % 2 = c) → Rn l (pre ++ [(c, (n : Int))]) (at_ + n) c
theorem Rn.inv {l : List Int} {pre : List (Int × Int)} {x : Int × Int} {a : Nat} {c : Int} (h : Rn l (pre ++ [x]) a c) : ∃ at_ last, ∃ n : Nat, Rn l pre at_ last ∧ x = (c, (n : Int)) ∧ 1 ≤ n ∧ at_ + n ≤ l.length ∧ c ≠ last ∧ c ≤ 1 ∧ (∀ i, i < n → l.getD (at_ + i) 0 % 2 = c) ∧ a = at_ + n := by
  generalize hp : pre ++ [x] = q at h
  cases h with
  | nil => simp at hp
  | snoc h1 h2 h3 h4 h5 h6 =>
    obtain ⟨rfl, e⟩ := List.append_inj' hp rfl
    simp only [List.cons.injEq, and_true] at e
    exact ⟨_, _, _, h1, e, h2, h3, h4, h5, h6, rfl⟩
theorem Rn.same {l : List Int} {pre : List (Int × Int)} {a b : Nat} {c d : Int} (h : Rn l pre a c) : Rn l pre b d → a = b ∧ c = d := by
  induction h generalizing b d with
  | nil =>
    intro k
    generalize hp : ([] : List (Int × Int)) = q at k
    cases k with
    | nil => exact ⟨rfl, rfl⟩
    | snoc _ _ _ _ _ _ => simp at hp
  | snoc h1 h2 h3 h4 h5 h6 ih =>
    intro k
    obtain ⟨at', last', n', k1, e, k2, k3, k4, k5, k6, rfl⟩ := k.inv
    obtain ⟨rfl, rfl⟩ := ih k1
    injection e with e1 e2
    exact ⟨by omega, e1⟩

theorem Rn.len {l : List Int} {pre : List (Int × Int)} {a : Nat} {c : Int} (h : Rn l pre a c) : pre.length ≤ a ∧ a ≤ l.length := by
  induction h with
  | nil => exact ⟨Nat.le_refl _, Nat.zero_le _⟩
  | snoc h1 h2 h3 h4 h5 h6 ih => exact ⟨by rw [List.length_append, List.length_singleton]; omega, h3⟩

/-- One block stays as it is. -/
def RK (b : Nat) (W W' : World) : Prop := ∀ o, W.heap[b]? = some o → W'.heap[b]? = some o
theorem RK.refl (b : Nat) (W : World) : RK b W W := fun _ h => h
theorem RK.trans {b : Nat} {A B C : World} (h : RK b A B) (k : RK b B C) : RK b A C := fun o ho => k o (h o ho)
theorem RK.drew {b : Nat} {A B : World} (h : RK b A B) : RK b A B.drew := h
theorem RK.cell {b j : Nat} {W W' : World} {v : Value} (h : RK b W W') (hc : W.cell? ⟨b, j, none⟩ = some v) : W'.cell? ⟨b, j, none⟩ = some v := by
  cases ho : W.heap[b]? with
  | none => simp [World.cell?, ho] at hc
  | some o =>
    have := h o ho
    simp only [World.cell?, ho] at hc
    simp only [World.cell?, this]
    exact hc
theorem rk_b {b : Nat} {w : World} (hb : b < w.heap.size) (W : World) (l : Nat) (o o' : Obj) (hl : w.heap.size ≤ l) (h : W.heap[l]? = some o) (_ : o.isCells = false) (_ : o.isWalk = false) : RK b W (W.putObj l o') := fun x hx => by
  have hg := (grownBy_putObj' W l o').block b (Array.getElem?_eq_some_iff.1 hx).1 (fun e => by cases e; omega)
  rw [hg]
  exact hx
theorem rk_set {b g i : Nat} {v : Value} (W : World) (hn : g ≠ b) : RK b W (W.setCell ⟨g, i, none⟩ v) := fun o ho => by
  have : (W.setCell ⟨g, i, none⟩ v).heap[b]? = W.heap[b]? := Below.heap_setCell _ _ _ _ (fun e => hn e.symm)
  rw [this]
  exact ho
theorem abides_drew {β : Type} {B : Nat} {J : β → World → Prop} (h : AbidesFrom B J) {s : β} {W : World} (hs : J s W) : J s W.drew :=
  h s W W.drew none hs ⟨rfl, rfl, rfl, Nat.le_refl _, fun _ _ _ => rfl⟩ (fun r e => by cases e)
theorem abides_drewN {β : Type} {B : Nat} {J : β → World → Prop} (h : AbidesFrom B J) {s : β} {W : World} (hs : J s W) (k : Nat) : J s (W.drewN k) :=
  h s W (W.drewN k) none hs ⟨rfl, rfl, rfl, Nat.le_refl _, fun _ _ _ => rfl⟩ (fun r e => by cases e)
theorem RK.drewN {b : Nat} {A B : World} (h : RK b A B) (k : Nat) : RK b A (B.drewN k) := h

set_option maxRecDepth 100000 in
set_option maxHeartbeats 4000000 in
theorem runs1_in (n : Nat) (hn : 1 ≤ n) (l Bs bl o cap : Nat) (A : Option Addr) (xs : List Int) (hby : Byt xs) (hl0 : xs.length ≤ 9223372036854775000) (hlc : xs.length ≤ cap) (B : Nat) (J Jx : List (Int × Int) → World → Prop) (hJ : AbidesFrom B J)
    (hY : ∀ pre x W, J pre W → pre.length < xs.length → YieldAt Fence.wide (n - 1) Try.prog l #[.int .u8 x.1, .int .i64 x.2] W fun e W' =>
      (e = .returned (.bool true) ∧ J (pre ++ [x]) W' ∧ (RK bl W W' ∧ RK Bs W W')) ∨ (e = .returned (.bool false) ∧ Jx (pre ++ [x]) W'))
    (W : World) (hA : 0 < xs.length → A = some ⟨bl, o, none⟩) (hBs : W.cell? ⟨Bs, 0, none⟩ = some (.slice A xs.length cap)) (hc : ∀ j, j < xs.length → W.cell? ⟨bl, o + j, none⟩ = some (.int .u8 (xs.getD j 0))) (h0 : J [] W) :
    CallsIn Fence.wide n Try.prog 28 #[.func (.yield l) #[] #[], .pointer (some ⟨Bs, 0, none⟩)] W fun e W' => (∃ v, e = .returned v) ∧
      ((∃ ys, (∃ c, Rn xs ys xs.length c) ∧ J ys W') ∨ (∃ pre, (∃ a c, Rn xs pre a c) ∧ Jx pre W')) := by
  refine callsIn_of_wp Try.func28 rfl trivial ?_ rfl
  simp only [Try.ntmps28, List.size_toArray, List.length_cons, List.length_nil, Nat.reduceAdd, Nat.reduceSub, Array.replicate_succ, Array.replicate_zero, List.push_toArray, List.append_toArray, List.nil_append, List.cons_append]
  gi_wp2
  gi_loopw [3] (fun u3 wr => ∃ (a : Nat) (pre : List (Int × Int)) (last : Int), u3 = .int .i64 a ∧ Rn xs pre a last ∧ (last = 2 ∨ a = xs.length ∨ xs.getD a 0 % 2 ≠ last) ∧ J pre wr ∧ RK bl W wr ∧ RK Bs W wr)
    (fun u3 _ => xs.length - (intOf u3).toNat)
  case atStart => exact ⟨0, [], 2, rfl, .nil, .inl rfl, h0, RK.refl _ _, RK.refl _ _⟩
  case round =>
    obtain ⟨a, pre, last, rfl, hrn, hlast, hJs, hk, hkB⟩ := hrel
    have hal := hrn.len
    have hBs1 := hkB.cell hBs
    by_cases hlt : a < xs.length
    · obtain rfl := hA (by omega)
      have e1 : decide ((a : Int) < (xs.length : Int)) = true := by simp; omega
      have a0 : (0 : Int) ≤ (a : Int) := by omega
      have a1 : (a : Int) < (xs.length : Int) := by omega
      gi_wp2
      gi_loopw [4] (fun u4 wr2 => ∃ e : Nat, u4 = .int .i64 e ∧ a + 1 ≤ e ∧ e ≤ xs.length ∧ (∀ i, i < e - a → xs.getD (a + i) 0 % 2 = xs.getD a 0 % 2) ∧ J pre wr2 ∧ RK bl W wr2 ∧ RK Bs W wr2)
        (fun u4 _ => xs.length - (intOf u4).toNat)
      case atStart => exact ⟨a + 1, by simp, by omega, by omega, (fun i hi => by
          have h : i < a + 1 - a := hi
          have h0 : i = 0 := by omega
          subst h0
          rfl), hJs, hk, hkB⟩
      case round =>
        obtain ⟨e, rfl, he1, he2, hin, hJ2, hk2, hkB2⟩ := hrel
        have hBs2 := hkB2.cell hBs
        have ca := hk2.cell (hc a hlt)
        have hya := hby.at hlt
        obtain ⟨y, hyy⟩ : ∃ y, xs.getD a 0 = y := ⟨_, rfl⟩
        rw [hyy] at ca hya
        have HY := hid hyy
        have hand : Go.bits .and .u8 y 1 = y % 2 := and1 hya.1 hya.2
        have hws : IntKind.i64.wrap ((e : Int) - (a : Int)) = (e : Int) - (a : Int) := IntWalk.i64_in _ (by omega)
        have D : ∀ q : Addr, wr.drew.cell? q = wr.cell? q := fun q => rfl
        have b0 : (0 : Int) ≤ (e : Int) := by omega
        have HNE : Hid (y % 2 ≠ last) := hid (by
          rcases hlast with h | h | h
          · omega
          · omega
          · rw [hyy] at h; exact h)
        by_cases hel : e < xs.length
        · have e2 : decide ((e : Int) < (xs.length : Int)) = true := by simp; omega
          have b1 : (e : Int) < (xs.length : Int) := by omega
          have ce := hk2.cell (hc e hel)
          have hye := hby.at hel
          obtain ⟨x, hxx⟩ : ∃ x, xs.getD e 0 = x := ⟨_, rfl⟩
          rw [hxx] at ce hye
          have hsp := same_par hye.1 hye.2 hya.1 hya.2
          by_cases hq : x % 2 = y % 2
          · rw [decide_eq_true hq] at hsp
            gi_wp2
            gi_quiet (fail)
            gi_wp2
            go_roundw
            case rel => exact ⟨e + 1, by simp, by omega, by omega, (fun i hi => by
              by_cases h : i < e - a
              · exact hin i h
              · obtain rfl : i = e - a := by omega
                rw [show a + (e - a) = e by omega, hxx, HY.out]
                exact hq), abides_drewN hJ hJ2 _, hk2.drewN _, hkB2.drewN _⟩
            case measure => simp [intOf]; omega
          · rw [decide_eq_false hq] at hsp
            have HQ : Hid (y % 2 = 2 ∨ e = xs.length ∨ xs.getD e 0 % 2 ≠ y % 2) := hid (.inr (.inr (by rw [hxx]; exact hq)))
            have hrn2 : Rn xs (pre ++ [(y % 2, (e : Int) - (a : Int))]) e (y % 2) := by
              have h := Rn.snoc (c := y % 2) (n := e - a) hrn (by omega) (by omega) HNE.out (by omega) (fun i hi => by have := hin i hi; rw [HY.out] at this; exact this)
              rw [show a + (e - a) = e by omega, show ((e - a : Nat) : Int) = (e : Int) - (a : Int) by omega] at h
              exact h
            gi_wp2
            gi_quiet (fail)
            have D2 : ∀ q : Addr, (wr.drewN nq).cell? q = wr.cell? q := fun q => rfl
            obtain ⟨fn, tmps, assign, body, hy, hR⟩ := hY pre (y % 2, (e : Int) - (a : Int)) (wr.drewN nq) (abides_drewN hJ hJ2 _) (by omega)
            dsimp only at hy
            gi_wp2
            refine hR.mono ?_
            rintro er W3 (⟨rfl, hJ3, hk3, hk4⟩ | ⟨rfl, hJx3⟩)
            · gi_wp2
              go_roundw
              case rel => exact ⟨e, _, y % 2, rfl, hrn2, HQ.out, hJ3, (hk2.drewN _).trans hk3, (hkB2.drewN _).trans hk4⟩
              case measure => simp [intOf]; omega
            · gi_wp2
              refine bodyPost_ret (results_none rfl _ _ _) rfl ?_
              exact ⟨⟨_, rfl⟩, .inr ⟨_, ⟨e, _, hrn2⟩, hJx3⟩⟩
        · obtain rfl : e = xs.length := by omega
          have e2 : decide ((xs.length : Int) < (xs.length : Int)) = false := by simp
          have hrn2 : Rn xs (pre ++ [(y % 2, (xs.length : Int) - (a : Int))]) xs.length (y % 2) := by
            have h := Rn.snoc (c := y % 2) (n := xs.length - a) hrn (by omega) (by omega) HNE.out (by omega) (fun i hi => by have := hin i hi; rw [HY.out] at this; exact this)
            rw [show a + (xs.length - a) = xs.length by omega, show ((xs.length - a : Nat) : Int) = (xs.length : Int) - (a : Int) by omega] at h
            exact h
          gi_wp2
          gi_quiet (fail)
          have D2 : ∀ q : Addr, (wr.drewN nq).cell? q = wr.cell? q := fun q => rfl
          obtain ⟨fn, tmps, assign, body, hy, hR⟩ := hY pre (y % 2, (xs.length : Int) - (a : Int)) (wr.drewN nq) (abides_drewN hJ hJ2 _) (by omega)
          dsimp only at hy
          gi_wp2
          refine hR.mono ?_
          rintro er W3 (⟨rfl, hJ3, hk3, hk4⟩ | ⟨rfl, hJx3⟩)
          · gi_wp2
            go_roundw
            case rel => exact ⟨xs.length, _, y % 2, rfl, hrn2, (.inr (.inl rfl)), hJ3, (hk2.drewN _).trans hk3, (hkB2.drewN _).trans hk4⟩
            case measure => simp [intOf]; omega
          · gi_wp2
            refine bodyPost_ret (results_none rfl _ _ _) rfl ?_
            exact ⟨⟨_, rfl⟩, .inr ⟨_, ⟨xs.length, _, hrn2⟩, hJx3⟩⟩
    · obtain rfl : a = xs.length := by omega
      have e1 : decide ((xs.length : Int) < (xs.length : Int)) = false := by simp
      gi_wp2
      go_end0
      exact ⟨⟨_, rfl⟩, .inl ⟨pre, ⟨last, hrn⟩, hJs⟩⟩

/-- The iterator, as a contract. -/
theorem runs_stops (n : Nat) (hn : 1 ≤ n) (Bs bl o cap : Nat) (A : Option Addr) (xs : List Int) (hby : Byt xs) (hl0 : xs.length ≤ 9223372036854775000) (hlc : xs.length ≤ cap) (w : World) (hBw : Bs < w.heap.size) (hA : 0 < xs.length → A = some ⟨bl, o, none⟩ ∧ bl < w.heap.size)
    (hBs : w.cell? ⟨Bs, 0, none⟩ = some (.slice A xs.length cap)) (hc : ∀ j, j < xs.length → w.cell? ⟨bl, o + j, none⟩ = some (.int .u8 (xs.getD j 0))) :
    SeqStopsK Fence.wide n Try.prog 28 #[.pointer (some ⟨Bs, 0, none⟩)] (fun x : Int × Int => #[Value.int .u8 x.1, Value.int .i64 x.2]) (fun W W' => RK bl W W' ∧ RK Bs W W') (fun ys => ∃ c, Rn xs ys xs.length c) (fun pre => ∃ a c, Rn xs pre a c) xs.length w := fun l J Jx W hW hJ _ hY h0 =>
  runs1_in n hn l Bs bl o cap A xs hby hl0 hlc W.heap.size J Jx hJ hY W (fun h => (hA h).1) ((hW.cell (p := ⟨Bs, 0, none⟩) hBw).trans hBs) (fun j hj => (hW.cell (p := ⟨bl, o + j, none⟩) (hA (by omega)).2).trans (hc j hj)) h0

set_option maxHeartbeats 1000000 in
theorem runs_in (n : Nat) (a : Option Addr) (len cap : Nat) (w : World) :
    CallsIn Fence.wide n Try.prog 20 #[.slice a len cap] w fun e w' => e = .returned (.func (.func 28) #[] #[.pointer (some ⟨w.heap.size, 0, none⟩)]) ∧ w' = w.alloc (.cells #[.slice a len cap] 22) := by
  refine callsIn_of_wp Try.func20 rfl trivial ?_ rfl
  simp only [Try.ntmps20, List.size_toArray, List.length_cons, List.length_nil, Nat.reduceAdd, Nat.reduceSub, Array.replicate_succ, Array.replicate_zero, List.push_toArray, List.append_toArray, List.nil_append, List.cons_append]
  gi_wp2
  go_ret
  exact ⟨rfl, rfl⟩

end Go.Proofs.Ytobllheaadmbgaa
