/- ConsPlays: what is kept from round to round. -/
import Derived.Test.YtocogmboocjjaaaPlayL
set_option linter.unusedSimpArgs false
set_option linter.unusedVariables false
set_option linter.unnecessarySimpa false
set_option maxRecDepth 100000
namespace Go.Proofs.Ytocogmboocjjaaa
open Go.RowKit Go.Proofs.YtocogmboocjjaaaW.PrintWords

theorem TkAt.only {a w : World} {b cb gb k : Nat} {t : Ts} {cs : Array Value} {s : TypeId} (h : TkAt a b cb gb t) (hk : Blk a k cs s) (h1 : s ≠ TT) (h2 : s ≠ KT) (h3 : s ≠ GT) (h4 : s ≠ U8) (o : Only k a w) : TkAt w b cb gb t := by
  have hu : ∀ g cs', Blk a g cs' U8 → Blk w g cs' U8 := fun g cs' hg => hg.kept o (hg.only_type hk (Ne.symm h4))
  rcases h with ⟨g1, g2, ⟨vb, vv, g3, g3', g3''⟩, g4, g5⟩ | ⟨g1, g2, g3⟩
  · exact .inl ⟨g1, g2.kept o (g2.only_type hk (Ne.symm h1)), ⟨vb, vv, g3.kept o (g3.only_type hk (Ne.symm h2)), g3'.keep hu, g3''.keep hu⟩, g4.kept o (g4.only_type hk (Ne.symm h3)), g5⟩
  · exact .inr ⟨g1, g2.kept o (g2.only_type hk (Ne.symm h1)), g3⟩
theorem TkAt.lt {w : World} {b cb gb : Nat} {t : Ts} (h : TkAt w b cb gb t) : b < w.heap.size ∧ cb < w.heap.size ∧ gb < w.heap.size := by
  rcases h with ⟨_, g2, g3, g4, _⟩ | ⟨_, g2, rfl, rfl⟩
  · obtain ⟨cs, h3⟩ := g3.blk
    exact ⟨g2.lt, h3.lt, g4.lt⟩
  · exact ⟨g2.lt, g2.lt, g2.lt⟩
/-- The memory of the two takers. -/
structure PM (w : World) (A0 rb : Nat) (a b : Ch) (p cb gb : Nat) (t : Ts) (r : Qt) (wx : World) : Prop where
  tk : TkAt wx p cb gb t
  rq : Blk wx rb r.cells QT
  ba : Blk wx A0 a.cells CT
  bb : Blk wx (A0 + 1) b.cells CT
  ext : Ext w wx
  p0 : w.heap.size ≤ p
  c0 : w.heap.size ≤ cb
  g0 : w.heap.size ≤ gb
  r0 : w.heap.size ≤ rb
theorem PM.more {w wx wy : World} {A0 rb : Nat} {a b : Ch} {p cb gb : Nat} {t : Ts} {r : Qt} (h : PM w A0 rb a b p cb gb t r wx) (k : Ext wx wy) : PM w A0 rb a b p cb gb t r wy :=
  ⟨h.tk.ext k, k.blk h.rq, k.blk h.ba, k.blk h.bb, h.ext.trans k, h.p0, h.c0, h.g0, h.r0⟩
theorem nx_le {w wx : World} {b c c' B : Nat} (n : Nx wx b c c') (k : Ext w wx) (hb : w.heap.size ≤ b) (hc : w.heap.size ≤ c) : w.heap.size ≤ c' := by
  rcases n with rfl | rfl | h
  · exact hc
  · exact hb
  · exact Nat.le_trans k.le h
theorem PM.take {w wx wy : World} {A0 rb : Nat} {a b : Ch} {p cb gb cb' gb' : Nat} {t t' : Ts} {r : Qt} (h : PM w A0 rb a b p cb gb t r wx) (o : O3 p cb gb wx wy) (ht : TkAt wy p cb' gb' t') (n1 : Nx wx p cb cb') (n2 : Nx wx p gb gb') : PM w A0 rb a b p cb' gb' t' r wy :=
  ⟨ht, h.tk.keep o h.rq (by decide) (by decide) (by decide), h.tk.keep o h.ba (by decide) (by decide) (by decide), h.tk.keep o h.bb (by decide) (by decide) (by decide), o.ext h.ext h.p0 h.c0 h.g0, h.p0, nx_le (B := 0) n1 h.ext h.p0 h.c0, nx_le (B := 0) n2 h.ext h.p0 h.g0, h.r0⟩
theorem PM.ref {w wx wy : World} {A0 rb : Nat} {a b : Ch} {p cb gb : Nat} {t : Ts} {r r' : Qt} (h : PM w A0 rb a b p cb gb t r wx) (o : Only rb wx wy) (hr : Blk wy rb r'.cells QT) : PM w A0 rb a b p cb gb t r' wy :=
  ⟨h.tk.only h.rq (by decide) (by decide) (by decide) (by decide) o, hr, h.ba.kept o (h.ba.only_type h.rq (by decide)), h.bb.kept o (h.bb.only_type h.rq (by decide)), Ext.only h.ext o h.r0, h.p0, h.c0, h.g0, h.r0⟩
/-- Two takers apart. -/
structure PF (w : World) (A0 rb : Nat) (a b : Ch) (p cb gb : Nat) (t : Ts) (p' cb' gb' : Nat) (t' : Ts) (r : Qt) (wx : World) : Prop where
  m : PM w A0 rb a b p cb gb t r wx
  o : TkAt wx p' cb' gb' t'
  op : w.heap.size ≤ p'
  oc : w.heap.size ≤ cb'
  og : w.heap.size ≤ gb'
  h1 : p ≠ p' ∧ p ≠ cb' ∧ p ≠ gb'
  h2 : cb ≠ p' ∧ cb ≠ cb' ∧ cb ≠ gb'
  h3 : gb ≠ p' ∧ gb ≠ cb' ∧ gb ≠ gb'
theorem PM.fork {w wx wy : World} {A0 rb : Nat} {a b : Ch} {p cb gb p' cb' gb' : Nat} {t : Ts} {r : Qt} (h : PM w A0 rb a b p cb gb t r wx) (k : Ext wx wy) (ht : TkAt wy p' cb' gb' t) (l1 : wx.heap.size ≤ p') (l2 : wx.heap.size ≤ cb') (l3 : wx.heap.size ≤ gb') : PF w A0 rb a b p' cb' gb' t p cb gb t r wy := by
  obtain ⟨q1, q2, q3⟩ := h.tk.lt
  have hl := h.ext.le
  exact ⟨⟨ht, k.blk h.rq, k.blk h.ba, k.blk h.bb, h.ext.trans k, by omega, by omega, by omega, h.r0⟩, h.tk.ext k, h.p0, h.c0, h.g0, ⟨by omega, by omega, by omega⟩, ⟨by omega, by omega, by omega⟩, ⟨by omega, by omega, by omega⟩⟩
theorem PF.old {w wx wy : World} {A0 rb : Nat} {a b : Ch} {p cb gb p' cb' gb' cb2 gb2 : Nat} {t t' t2 : Ts} {r : Qt} (h : PF w A0 rb a b p cb gb t p' cb' gb' t' r wx) (o : O3 p' cb' gb' wx wy) (ht : TkAt wy p' cb2 gb2 t2) (n1 : Nx wx p' cb' cb2) (n2 : Nx wx p' gb' gb2) : PF w A0 rb a b p cb gb t p' cb2 gb2 t2 r wy := by
  obtain ⟨hm, ho, op, oc, og, ⟨a1, a2, a3⟩, ⟨b1, b2, b3⟩, ⟨c1, c2, c3⟩⟩ := h
  obtain ⟨q1, q2, q3⟩ := hm.tk.lt
  refine ⟨⟨hm.tk.far o (fun g cs hg => ho.keep o hg (by decide) (by decide) (by decide)) ⟨a1, a2, a3⟩ ⟨b1, b2, b3⟩ ⟨c1, c2, c3⟩, ho.keep o hm.rq (by decide) (by decide) (by decide), ho.keep o hm.ba (by decide) (by decide) (by decide), ho.keep o hm.bb (by decide) (by decide) (by decide), o.ext hm.ext op oc og, hm.p0, hm.c0, hm.g0, hm.r0⟩, ht, op, nx_le (B := 0) n1 hm.ext op oc, nx_le (B := 0) n2 hm.ext op og, ⟨a1, ?_, ?_⟩, ⟨b1, ?_, ?_⟩, ⟨c1, ?_, ?_⟩⟩
  all_goals
    rcases n1 with rfl | rfl | n1 <;> rcases n2 with rfl | rfl | n2 <;> first | assumption | omega
theorem PF.done {w wx wy : World} {A0 rb : Nat} {a b : Ch} {p cb gb p' cb' gb' : Nat} {t t' : Ts} {r : Qt} (h : PF w A0 rb a b p cb gb t p' cb' gb' t' r wx) (o : Only p' wx wy) : PM w A0 rb a b p cb gb t r wy := by
  have o3 : O3 p' cb' gb' wx wy := .of1 o
  obtain ⟨hm, ho, op, oc, og, h1, h2, h3⟩ := h
  exact ⟨hm.tk.far o3 (fun g cs hg => ho.keep o3 hg (by decide) (by decide) (by decide)) h1 h2 h3, ho.keep o3 hm.rq (by decide) (by decide) (by decide), ho.keep o3 hm.ba (by decide) (by decide) (by decide), ho.keep o3 hm.bb (by decide) (by decide) (by decide), o3.ext hm.ext op oc og, hm.p0, hm.c0, hm.g0, hm.r0⟩
/-- How the two stand. -/
structure PR (t : Ts) (r : Qt) (now : Int) : Prop where
  sr : SR t r now
  byt : Byt r.came
  len : r.came.length ≤ 8
theorem PR.start : PR (Ts.rest 0) (Qt.rest 0) 0 := ⟨SR.start, Byt.nil, Nat.zero_le _⟩
theorem PR.rest (now : Int) : PR (Ts.rest 0) (Qt.rest 0) now := ⟨SR.rest 0 now, Byt.nil, Nat.zero_le _⟩
theorem PR.later {t : Ts} {r : Qt} {a b : Int} (h : PR t r a) (hab : a ≤ b) (hb : b ≤ 100000) : PR t r b := ⟨h.sr.later hab hb, h.byt, h.len⟩
theorem PR.gb {t : Ts} {r : Qt} {now : Int} (h : PR t r now) (hw : r.works = true) : 0 ≤ r.g.time ∧ r.g.time ≤ 65535 ∧ 0 ≤ r.g.gap ∧ r.g.gap ≤ 65535 := by
  obtain ⟨e1, _, _, e4⟩ := h.sr
  obtain ⟨_, _, _, _, _, _, _, hr, _⟩ := e4 (by rw [← e1]; exact hw)
  have h1 := hr.time
  have h2 := hr.gap
  obtain ⟨_, _, l0, l1, _, _, g0, g1⟩ := hr.ok
  omega
theorem PR.begin {t : Ts} {r : Qt} {now : Int} (h : PR t r now) (h0 : 0 ≤ now) (h1 : now ≤ 100000) (on : Bool) (x : Ch) : PR (t.begin now on x).1 (r.begin now on x).1 now ∧ (t.begin now on x).2 = (r.begin now on x).2 := by
  obtain ⟨q1, q2⟩ := h.sr.begin h0 h1 on x
  refine ⟨⟨q1, ?_, ?_⟩, q2⟩
  all_goals
    unfold Qt.begin
    split
    · first | exact h.byt | exact h.len
    · split
      · first | exact Byt.nil | exact Nat.zero_le _
      · split
        · first | exact Byt.nil | exact Nat.zero_le _
        · split
          · first | exact h.byt | exact h.len
          · first | exact Byt.nil | exact Nat.zero_le _
theorem PR.hear {t : Ts} {r : Qt} {now : Int} (h : PR t r now) (h0 : 0 ≤ now) (h1 : now ≤ 100000) (f : Fr) (hf : Byt f.data) : PR (t.hear now f).1 (r.hear now f).1 now ∧ (t.hear now f).2 = (r.hear now f).2 := by
  obtain ⟨q1, q2⟩ := h.sr.hear h0 h1 f
  refine ⟨⟨q1, ?_, ?_⟩, q2⟩
  all_goals
    unfold Qt.hear
    split
    · first | exact h.byt | exact h.len
    · split
      · first | exact Byt.nil | exact Nat.zero_le _
      · split
        · first | exact h.byt | exact h.len
        · first | exact bytes_byt hf | exact fr_bytes_len f
theorem PR.val {t : Ts} {r : Qt} {now : Int} (h : PR t r now) : r.works = t.works ∧ r.failed = t.failed ∧ r.value = t.val := by
  obtain ⟨e1, e2, e3, e4⟩ := h.sr
  refine ⟨e1, e2, ?_⟩
  unfold Ts.val
  by_cases hw : t.works = true
  · rw [if_pos hw]
    exact (e4 hw).2.2.2.2.2.2.1
  · rw [if_neg hw]
    exact e3 (by simpa using hw)

end Go.Proofs.Ytocogmboocjjaaa
