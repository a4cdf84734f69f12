/- The reference's Segs: bytes in segments. -/
import Derived.Test.YtpdomjinhbnmfaaRSeg
set_option linter.unusedSimpArgs false
set_option linter.unusedVariables false
set_option linter.unnecessarySimpa false
set_option maxRecDepth 100000
namespace Go.Proofs.Ytpdomjinhbnmfaa
open Go.RowKit Go.Proofs.YtpdomjinhbnmfaaW.PrintWords
attribute [local go_sem] max2_max min2_min max_of_two min_of_two alL_v bdL_none bdL_one bxL_ln lnguard_eq lnguard_ne lnbin_eq lnbin_ne
attribute [local go_sem ↓] ldL_in bxL_in stL_in alL_in bdL_in cvS_in

structure Sl where
  A : Option Addr
  n : Nat
  c : Nat
def Sl.val (s : Sl) : Value := .slice s.A s.n s.c
abbrev SR2 : TypeId := 78
def slLay : Lay Sl := ⟨S8, SR2, 1, 24, .slice none 0 0, fun s => [.slice s.A s.n s.c], fun _ => rfl, fun a u hu => by simp at hu; subst hu; rfl, Try.underlying78, by kernel_rfl, rfl, by decide, by decide⟩
theorem appSl {ops : Array Oper} {rest : List Oper} {o : Oper} {a : Act} {Q : Exit → Act → World → Prop} {W : World} (hgd : o.guard = none) (s x : Operand)
    (ho : o.op = .call { callee := .builtin .append, args := #[s, x], argTypes := #[SR2, SR2] }) (base : Nat) {v : Value} {l : List Sl} {A : Option Addr} {n c : Nat} (hs : a.eval s = v) {B : Nat} (hx : a.eval x = .slice (some ⟨B, 0, none⟩) 1 1) (hB : B = W.heap.size)
    (hown : OwnR slLay W base v l) (hlen : l.length + 1 ≤ 1000000) (hbase : base ≤ W.heap.size)
    (h : ∀ v' w', OwnR slLay w' base v' (l ++ [⟨A, n, c⟩]) → Below base W w' → KeepR S8 W w' → wpList Try.prog ops Q rest (a.put o.dst v') w') : wpList Try.prog ops Q (o :: rest) a (W.alloc (.cells #[.slice A n c] S8)) :=
  appR slLay (f := ⟨A, n, c⟩) hgd s x ho base hs hx hB hown hlen hbase h
theorem segs_add {w : World} {b : List Int} {S : List Sl} {x : Sl} {i : Nat} (hS : S.length = i) (h : ∀ (j : Nat) (hj : j < S.length), Bs w (S[j]).val (segB b j)) (hx : Bs w x.val (segB b i)) : ∀ (j : Nat) (hj : j < (S ++ [x]).length), Bs w ((S ++ [x])[j]).val (segB b j) := by
  intro j hj
  by_cases h1 : j < S.length
  · rw [List.getElem_append_left h1]
    exact h j h1
  · have : j = i := by simp at hj; omega
    subst this
    rw [List.getElem_append_right (by omega)]
    simp [hS]
    exact hx
set_option maxHeartbeats 4000000 in
theorem segs_c (u : Value) (b : List Int) (w : World) (hu : Bs w u b) (hl : b.length ≤ 64) :
    Calls Try.prog 31 #[u] w fun e w' => ∃ v S, e = .returned v ∧ OwnR slLay w' w.heap.size v S ∧ S.length = nseg b ∧ (∀ (j : Nat) (hj : j < S.length), Bs w' (S[j]).val (segB b j)) ∧ Ext w w' := by
  obtain ⟨A, c, rfl⟩ := hu.form
  have HU := hid hu
  clear hu
  have O0 := hid (OwnR.zero (L := slLay) w w.heap.size (Nat.le_refl _))
  have K0 : Ext w (w.alloc (.cells #[] S8)) := (by repeat (first | with_reducible exact Ext.refl _ | with_reducible assumption | with_reducible apply Ext.alloc | with_reducible apply Ext.drew | with_reducible apply Ext.drewN | (with_reducible refine Ext.set' ?_ (by first | omega | (simp only [World.size_alloc, World.size_setCell]; omega))) | (with_reducible refine Ext.trans ?_ (by with_reducible assumption)) | (with_reducible refine Ext.only ?_ (by with_reducible assumption) (by omega))))
  have HU0 := hid (HU.out.ext K0)
  have HK0 := hid K0
  clear K0
  go_enter Try.func31, Try.ntmps31
  go_wp2_with fail
  go_loopg [0, 3] 20 (fun g u0 u3 wr => ∃ (i n : Nat) (A' : Option Addr) (c' : Nat) (S : List Sl), i + g = 20 ∧ n = b.length - 7 * i ∧ u0 = .slice A' n c' ∧ Hid (Bs w (.slice A' n c') (b.drop (7 * i)) ∧ 7 * i ≤ b.length ∧ (0 < i → 7 * i < b.length) ∧ S.length = i ∧ (∀ (j : Nat) (hj : j < S.length), Bs w (S[j]).val (segB b j))) ∧ Hid (OwnR slLay wr w.heap.size u3 S) ∧ Hid (Ext w wr))
  case atStart => exact ⟨0, b.length, A, c, [], rfl, by omega, rfl, hid ⟨by simpa using HU.out, by omega, by omega, rfl, fun j hj => by simp at hj⟩, O0, HK0⟩
  case round =>
    clear O0 HU0 HK0
    obtain ⟨i, n, A', c', S, hig, hn, rfl, HI, HO, HK⟩ := hrel
    have hn' := hid hn
    obtain ⟨bl, o, hcn, hrow, hbyt⟩ : ∃ bl o, n ≤ c' ∧ Row8 w A' bl o (b.drop (7 * i)) ∧ Byt (b.drop (7 * i)) := by
      obtain ⟨A2, bl, o, c2, he, hlc, hr, hb⟩ := HI.out.1
      injection he with e1 e2 e3
      subst e1 e3
      exact ⟨bl, o, by rw [e2]; exact hlc, hr, hb⟩
    have hdl : (b.drop (7 * i)).length = n := by rw [List.length_drop]; exact hn.symm
    have HROW := hid (And.intro hrow hbyt)
    clear hn hrow hbyt
    by_cases h7 : 7 < n
    · have e1 : decide (7 < (n : Int)) = true := by simp; omega
      have e1n : decide (7 < n) = true := by simpa using h7
      obtain ⟨rfl, _⟩ := HROW.out.1.2.1 (by omega)
      have f1 : (7 : Int) ≤ (c' : Int) := by omega
      have f2 : (7 : Int) ≤ (n : Int) := by omega
      have f3 : (n : Int) ≤ (c' : Int) := by omega
      have f4 : ¬ c' = 7 := by omega
      have f5 : 7 ≤ c' := by omega
      have f6 : 7 ≤ n := by omega
      have hlen : S.length + 1 ≤ 1000000 := by have := HI.out; omega
      have hbw : w.heap.size ≤ wr.heap.size := HK.out.le
      have E0 := HK.out
      have hs7 : (segB b i).length = 7 := by
        have : (segB b i).length = min 7 (b.drop (7 * i)).length := List.length_take
        rw [this, hdl]
        omega
      have SB1 := hid (show Bs w (Sl.val ⟨some ⟨bl, o, none⟩, 7, c'⟩) (segB b i) from Bs.of_row (bl := bl) (o := o) hs7 f5 (HROW.out.1.take 7) (fun x hx => HROW.out.2 x (List.mem_of_mem_take hx)))
      have SB2 := hid (show Bs w (.slice (some ⟨bl, o + 7, none⟩) (n - 7) (c' - 7)) (b.drop (7 * (i + 1))) from by
        have e : b.drop (7 * (i + 1)) = (b.drop (7 * i)).drop 7 := by rw [List.drop_drop]; congr 1
        rw [e]
        exact Bs.of_row (bl := bl) (o := o + 7) (by rw [List.length_drop, hdl]) (by omega) (HROW.out.1.drop 7) (fun x hx => HROW.out.2 x (List.mem_of_mem_drop hx)))
      go_wp2_with (at_builtin; go_must (refine appSl (l := S) (A := some ⟨bl, o, none⟩) (n := 7) (c := c') rfl (.tmp 8) (.tmp 11) rfl w.heap.size rfl rfl (by first | with_reducible rfl | simp only [World.size_alloc] | rfl) HO.out hlen hbw ?_); intro v7 w7 o7 k7 kk7; have HO7 := hid o7; have K7 : Hid (Ext w w7) := hid (Below.trans E0 k7); clear o7 k7 kk7)
      have ENX := hid (segs_add (x := ⟨some ⟨bl, o, none⟩, 7, c'⟩) HI.out.2.2.2.1 HI.out.2.2.2.2 SB1.out)
      go_roundg (gk - 1)
      case rel => exact ⟨i + 1, n - 7, _, c' - 7, S ++ [⟨some ⟨bl, o, none⟩, 7, c'⟩], by have := HI.out; have := hn'.out; omega, by have := hn'.out; omega, rfl, hid ⟨SB2.out, by have := hn'.out; omega, by have := hn'.out; omega, by have := HI.out; simp; omega, ENX.out⟩, HO7, K7⟩
      case measure => (have := HI.out; have := hn'.out; omega)
    · have e1 : decide (7 < (n : Int)) = false := by simp; omega
      have e1n : decide (7 < n) = false := by simpa using h7
      have hlen : S.length + 1 ≤ 1000000 := by have := HI.out; omega
      have hbw : w.heap.size ≤ wr.heap.size := HK.out.le
      have E0 := HK.out
      have hsg : Hid (i + 1 = nseg b) := hid (by have := HI.out; have := hn'.out; unfold nseg; omega)
      have SB1 := hid (show Bs w (Sl.val ⟨A', n, c'⟩) (segB b i) from by
        have e : segB b i = b.drop (7 * i) := List.take_of_length_le (by rw [hdl]; omega)
        rw [e]
        exact HI.out.1)
      have ENX := hid (segs_add (x := ⟨A', n, c'⟩) HI.out.2.2.2.1 HI.out.2.2.2.2 SB1.out)
      go_wp2_with (at_builtin; go_must (refine appSl (l := S) (A := A') (n := n) (c := c') rfl (.tmp 15) (.tmp 17) rfl w.heap.size rfl rfl (by first | with_reducible rfl | simp only [World.size_alloc] | rfl) HO.out hlen hbw ?_); intro v7 w7 o7 k7 kk7; have HO7 := hid o7; have K7 : Hid (Ext w w7) := hid (Below.trans E0 k7); clear o7 k7 kk7)
      go_ret
      exact ⟨_, _, rfl, HO7.out, by have h1 := HI.out.2.2.2.1; have h2 := hsg.out; simp; omega, fun j hj => (ENX.out j hj).ext K7.out, K7.out⟩

end Go.Proofs.Ytpdomjinhbnmfaa
