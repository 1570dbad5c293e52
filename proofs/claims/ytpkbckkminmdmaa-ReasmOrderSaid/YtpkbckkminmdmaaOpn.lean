/- What is handed in, opened: from the reader's data to the kinds of the print. -/
import Derived.Test.YtpkbckkminmdmaaPReasmHeldx0
import Derived.ProofKit
import Derived.Deep.Slices
namespace Go.Proofs.Ytpkbckkminmdmaa
open Go.ChangeShapes Go.WideShapes Go.RowKit Go.Proofs.YtpkbckkminmdmaaW.PrintWords

/-- Whatever is read at a type is of a kind, and of a sort. -/
def Opens {α : Type} (P : Program) (t : TypeId) (d : Kd α) (Q : α → Prop) : Prop :=
  ∀ {H : Type} {enc : TypeId × Value → H} {w : World} {base : Nat} {spare : Nat → Bool} {held : Bool} {fuel : Nat} {cs : List Value} {x : DataW H × List MemPlace},
    DataW.trod enc P w base spare held fuel t cs = some x → ∃ a, d.K w a cs ∧ Q a
theorem opens_int {P : Program} {t : TypeId} {k : IntKind} (ht : P.underlying t = some (.int k)) : Opens P t (Kd.int k) (fun n => (Lit.int k n).wf = true) := by
  intro H enc w base spare held fuel cs x h
  obtain ⟨n, rfl, _, hw⟩ := DataW.trod_int ht h
  exact ⟨n, rfl, hw⟩
theorem opens_bool {P : Program} {t : TypeId} (ht : P.underlying t = some .bool) : Opens P t Kd.bool (fun _ => True) := by
  intro H enc w base spare held fuel cs x h
  obtain ⟨n, rfl, _⟩ := DataW.trod_bool ht h
  exact ⟨n, rfl, trivial⟩
theorem opens_slice {α : Type} {P : Program} {t e : TypeId} {d : Kd α} {Q : α → Prop} (ht : P.underlying t = some (.slice e)) (hc : P.cellsOf e = d.sz) (he : Opens P e d Q) : Opens P t (Kd.slice e d) (fun xs => ∀ x ∈ xs, Q x) := by
  intro H enc w base spare held fuel cs x h
  rcases Deep.open_slice ht h with ⟨rfl, _⟩ | ⟨a, len, cap, m, n, D, Pl, rfl, _, hl, hcm, hm, _, hel⟩
  · exact ⟨[], ⟨none, 0, rfl, Nat.le_refl _, rfl, Nat.zero_le _, fun h => absurd h (Nat.lt_irrefl _)⟩, by simp⟩
  · have hml : len ≤ m := by rw [hm]; split <;> omega
    have one : ∀ i : Nat, i < len → ∃ y : α, (∃ c, c.length = d.sz ∧ d.K w y c ∧ ∀ j u, c[j]? = some u → w.cell? (a.add (i * d.sz + j)) = some u) ∧ Q y := by
      intro i hi
      obtain ⟨cs', h1, h2⟩ := hel i (by omega)
      obtain ⟨y, hy, hq⟩ := he h2
      refine ⟨y, ⟨cs', d.K_len hy, hy, fun j u hu => ?_⟩, hq⟩
      obtain ⟨_, hlen, hcell⟩ := World.cells?_some h1
      have hj : j < cs'.length := by
        rcases Nat.lt_or_ge j cs'.length with h | h
        · exact h
        · rw [List.getElem?_eq_none h] at hu
          cases hu
      have := hcell j (by omega)
      rw [Deep.add_add, hc] at this
      rw [this, hu]
    have all : ∀ k : Nat, k ≤ len → ∃ ys : List α, ys.length = k ∧ (∀ y ∈ ys, Q y) ∧ ∀ i p, ys[i]? = some p → ∃ c, c.length = d.sz ∧ d.K w p c ∧ ∀ j u, c[j]? = some u → w.cell? (a.add (i * d.sz + j)) = some u := by
      intro k
      induction k with
      | zero => exact fun _ => ⟨[], rfl, by simp, by simp⟩
      | succ k ih =>
        intro hk
        obtain ⟨ys, h1, h2, h3⟩ := ih (by omega)
        obtain ⟨y, hy, hq⟩ := one k (by omega)
        refine ⟨ys ++ [y], by simp [h1], fun z hz => ?_, fun i p hp => ?_⟩
        · rcases List.mem_append.1 hz with hz | hz
          · exact h2 z hz
          · rw [List.mem_singleton.1 hz]
            exact hq
        · rcases Nat.lt_or_ge i ys.length with hi | hi
          · rw [List.getElem?_append_left hi] at hp
            exact h3 i p hp
          · rw [List.getElem?_append_right hi] at hp
            have hi2 : i - ys.length = 0 := by
              rcases Nat.eq_zero_or_pos (i - ys.length) with h | h
              · exact h
              · rw [List.getElem?_eq_none (by simp; omega)] at hp
                cases hp
            rw [hi2] at hp
            injection hp with hp
            subst hp
            have : i = k := by omega
            subst this
            exact hy
    obtain ⟨ys, h1, h2, h3⟩ := all len (Nat.le_refl _)
    refine ⟨ys, ⟨some a, cap, by rw [h1], by omega, rfl, by rw [h1]; have : cap ≤ maxLen := hcm; simp only [maxLen] at this; omega, fun _ => ⟨a, rfl, h3⟩⟩, h2⟩
theorem in_u16 {n : Int} (h : (Lit.int .u16 n).wf = true) : 0 ≤ n ∧ n < 65536 := by
  have h2 := of_decide_eq_true (Bool.and_eq_true_iff.1 h).1
  have h3 := of_decide_eq_true (Bool.and_eq_true_iff.1 h).2
  rw [show IntKind.u16.min = 0 by rfl] at h2
  rw [show IntKind.u16.max = 65535 by rfl] at h3
  omega
theorem in_u32 {n : Int} (h : (Lit.int .u32 n).wf = true) : 0 ≤ n ∧ n < 4294967296 := by
  have h2 := of_decide_eq_true (Bool.and_eq_true_iff.1 h).1
  have h3 := of_decide_eq_true (Bool.and_eq_true_iff.1 h).2
  rw [show IntKind.u32.min = 0 by rfl] at h2
  rw [show IntKind.u32.max = 4294967295 by rfl] at h3
  omega
open Go.Proofs.Ytpkbckkminmdmaa.PReasmHeld
def Q33 (x : S33) : Prop := (0 ≤ x.f0 ∧ x.f0 < 4294967296) ∧ (0 ≤ x.f1 ∧ x.f1 < 65536) ∧ (0 ≤ x.f2 ∧ x.f2 < 65536)
def Q67 (x : S67) : Prop := (0 ≤ x.f0 ∧ x.f0 < 65536) ∧ (0 ≤ x.f1 ∧ x.f1 < 65536)
def Q36 (x : S36) : Prop := ∀ y ∈ x.f1, Q67 y
def Q38 (x : S38) : Prop := Q33 x.f1 ∧ Q36 x.f2
theorem opens_bytes : Opens Try.prog 31 (Kd.slice 5 (Kd.int .u8)) (fun xs => ∀ x ∈ xs, (Lit.int .u8 x).wf = true) := opens_slice Try.underlying31 (by kernel_rfl) (opens_int Try.underlying5)
theorem len_7 {cs : List Value} (h : cs.length = 7) : ∃ a b c d e f g, cs = [a, b, c, d, e, f, g] := by
  match cs, h with
  | [a, b, c, d, e, f, g], _ => exact ⟨a, b, c, d, e, f, g, rfl⟩
theorem get_some {α : Type} {xs : List α} {i n : Nat} (h : xs.length = n) (hi : i < n) : ∃ x, xs[i]? = some x := ⟨_, List.getElem?_eq_getElem (by omega)⟩
set_option maxRecDepth 100000 in
theorem opens_33 : Opens Try.prog 33 k33 Q33 := by
  intro H enc w base spare held fuel cs x h
  obtain ⟨xs, n, _, _, hl, hxl, hf⟩ := DataW.trod_struct Try.underlying33 h
  obtain ⟨v0, v1, v2, v3, v4, v5, v6, rfl⟩ := len_7 (hl.trans (by kernel_rfl))
  have hx7 : xs.length = 7 := hxl
  have c29 : Try.prog.cellsOf 29 = 1 := by kernel_rfl
  have c30 : Try.prog.cellsOf 30 = 1 := by kernel_rfl
  have c4 : Try.prog.cellsOf 4 = 1 := by kernel_rfl
  have c31 : Try.prog.cellsOf 31 = 1 := by kernel_rfl
  have f0 : DataW.trod enc Try.prog w base spare held n 29 (([v0, v1, v2, v3, v4, v5, v6].drop 0).take (Try.prog.cellsOf 29)) = xs[0]? := hf 0 _ rfl
  have f1 : DataW.trod enc Try.prog w base spare held n 30 (([v0, v1, v2, v3, v4, v5, v6].drop 1).take (Try.prog.cellsOf 30)) = xs[1]? := hf 1 _ rfl
  have f2 : DataW.trod enc Try.prog w base spare held n 30 (([v0, v1, v2, v3, v4, v5, v6].drop 2).take (Try.prog.cellsOf 30)) = xs[2]? := hf 2 _ rfl
  have f3 : DataW.trod enc Try.prog w base spare held n 4 (([v0, v1, v2, v3, v4, v5, v6].drop 3).take (Try.prog.cellsOf 4)) = xs[3]? := hf 3 _ rfl
  have f4 : DataW.trod enc Try.prog w base spare held n 4 (([v0, v1, v2, v3, v4, v5, v6].drop 4).take (Try.prog.cellsOf 4)) = xs[4]? := hf 4 _ rfl
  have f5 : DataW.trod enc Try.prog w base spare held n 4 (([v0, v1, v2, v3, v4, v5, v6].drop 5).take (Try.prog.cellsOf 4)) = xs[5]? := hf 5 _ rfl
  have f6 : DataW.trod enc Try.prog w base spare held n 31 (([v0, v1, v2, v3, v4, v5, v6].drop 6).take (Try.prog.cellsOf 31)) = xs[6]? := hf 6 _ rfl
  rw [List.getElem?_eq_getElem (by omega)] at f0 f1 f2 f3 f4 f5 f6
  rw [c29] at f0
  rw [c30] at f1 f2
  rw [c4] at f3 f4 f5
  rw [c31] at f6
  obtain ⟨a0, k0, q0⟩ := opens_int (k := .u32) Try.underlying29 f0
  obtain ⟨a1, k1, q1⟩ := opens_int (k := .u16) Try.underlying30 f1
  obtain ⟨a2, k2, q2⟩ := opens_int (k := .u16) Try.underlying30 f2
  obtain ⟨a3, k3, _⟩ := opens_bool Try.underlying4 f3
  obtain ⟨a4, k4, _⟩ := opens_bool Try.underlying4 f4
  obtain ⟨a5, k5, _⟩ := opens_bool Try.underlying4 f5
  obtain ⟨a6, k6, _⟩ := opens_bytes f6
  exact ⟨⟨a0, a1, a2, a3, a4, a5, a6⟩, ⟨[v0], _, rfl, k0, [v1], _, rfl, k1, [v2], _, rfl, k2, [v3], _, rfl, k3, [v4], _, rfl, k4, [v5], _, rfl, k5, k6⟩, in_u32 q0, in_u16 q1, in_u16 q2⟩
set_option maxRecDepth 100000 in
theorem opens_67 : Opens Try.prog 67 k67 Q67 := by
  intro H enc w base spare held fuel cs x h
  obtain ⟨xs, n, _, _, hl, hxl, hf⟩ := DataW.trod_struct Try.underlying67 h
  have hl2 : cs.length = 2 := hl.trans (by kernel_rfl)
  obtain ⟨v0, v1, rfl⟩ : ∃ a b, cs = [a, b] := by
    match cs, hl2 with
    | [a, b], _ => exact ⟨a, b, rfl⟩
  have hx2 : xs.length = 2 := hxl
  have c30 : Try.prog.cellsOf 30 = 1 := by kernel_rfl
  have f0 : DataW.trod enc Try.prog w base spare held n 30 (([v0, v1].drop 0).take (Try.prog.cellsOf 30)) = xs[0]? := hf 0 _ rfl
  have f1 : DataW.trod enc Try.prog w base spare held n 30 (([v0, v1].drop 1).take (Try.prog.cellsOf 30)) = xs[1]? := hf 1 _ rfl
  rw [List.getElem?_eq_getElem (by omega)] at f0 f1
  rw [c30] at f0 f1
  obtain ⟨a0, k0, q0⟩ := opens_int (k := .u16) Try.underlying30 f0
  obtain ⟨a1, k1, q1⟩ := opens_int (k := .u16) Try.underlying30 f1
  exact ⟨⟨a0, a1⟩, ⟨[v0], _, rfl, k0, k1⟩, in_u16 q0, in_u16 q1⟩
theorem opens_skips : Opens Try.prog 34 (Kd.slice 67 k67) (fun xs => ∀ x ∈ xs, Q67 x) := opens_slice Try.underlying34 (by kernel_rfl) opens_67
set_option maxRecDepth 100000 in
theorem opens_36 : Opens Try.prog 36 k36 Q36 := by
  intro H enc w base spare held fuel cs x h
  obtain ⟨xs, n, _, _, hl, hxl, hf⟩ := DataW.trod_struct Try.underlying36 h
  have hl2 : cs.length = 2 := hl.trans (by kernel_rfl)
  obtain ⟨v0, v1, rfl⟩ : ∃ a b, cs = [a, b] := by
    match cs, hl2 with
    | [a, b], _ => exact ⟨a, b, rfl⟩
  have hx2 : xs.length = 2 := hxl
  have c29 : Try.prog.cellsOf 29 = 1 := by kernel_rfl
  have c34 : Try.prog.cellsOf 34 = 1 := by kernel_rfl
  have f0 : DataW.trod enc Try.prog w base spare held n 29 (([v0, v1].drop 0).take (Try.prog.cellsOf 29)) = xs[0]? := hf 0 _ rfl
  have f1 : DataW.trod enc Try.prog w base spare held n 34 (([v0, v1].drop 1).take (Try.prog.cellsOf 34)) = xs[1]? := hf 1 _ rfl
  rw [List.getElem?_eq_getElem (by omega)] at f0 f1
  rw [c29] at f0
  rw [c34] at f1
  obtain ⟨a0, k0, q0⟩ := opens_int (k := .u32) Try.underlying29 f0
  obtain ⟨a1, k1, q1⟩ := opens_skips f1
  exact ⟨⟨a0, a1⟩, ⟨[v0], _, rfl, k0, k1⟩, q1⟩
set_option maxRecDepth 100000 in
theorem opens_38 : Opens Try.prog 38 k38 Q38 := by
  intro H enc w base spare held fuel cs x h
  obtain ⟨xs, n, _, _, hl, hxl, hf⟩ := DataW.trod_struct Try.underlying38 h
  have hl2 : cs.length = 10 := hl.trans (by kernel_rfl)
  obtain ⟨v0, v1, v2, v3, v4, v5, v6, v7, v8, v9, rfl⟩ : ∃ a b c d e f g h i j, cs = [a, b, c, d, e, f, g, h, i, j] := by
    match cs, hl2 with
    | [a, b, c, d, e, f, g, h, i, j], _ => exact ⟨a, b, c, d, e, f, g, h, i, j, rfl⟩
  have hx2 : xs.length = 3 := hxl
  have c3 : Try.prog.cellsOf 3 = 1 := by kernel_rfl
  have c33 : Try.prog.cellsOf 33 = 7 := by kernel_rfl
  have c36 : Try.prog.cellsOf 36 = 2 := by kernel_rfl
  have f0 : DataW.trod enc Try.prog w base spare held n 3 (([v0, v1, v2, v3, v4, v5, v6, v7, v8, v9].drop 0).take (Try.prog.cellsOf 3)) = xs[0]? := hf 0 _ rfl
  have f1 : DataW.trod enc Try.prog w base spare held n 33 (([v0, v1, v2, v3, v4, v5, v6, v7, v8, v9].drop 1).take (Try.prog.cellsOf 33)) = xs[1]? := hf 1 _ rfl
  have f2 : DataW.trod enc Try.prog w base spare held n 36 (([v0, v1, v2, v3, v4, v5, v6, v7, v8, v9].drop 8).take (Try.prog.cellsOf 36)) = xs[2]? := hf 2 _ rfl
  rw [List.getElem?_eq_getElem (by omega)] at f0 f1 f2
  rw [c3] at f0
  rw [c33] at f1
  rw [c36] at f2
  obtain ⟨a0, k0, q0⟩ := opens_int (k := .i64) Try.underlying3 f0
  obtain ⟨a1, k1, q1⟩ := opens_33 f1
  obtain ⟨a2, k2, q2⟩ := opens_36 f2
  exact ⟨⟨a0, a1, a2⟩, ⟨[v0], _, rfl, k0, [v1, v2, v3, v4, v5, v6, v7], _, rfl, k1, k2⟩, q1, q2⟩
theorem opens_ops : Opens Try.prog 22 (Kd.slice 38 k38) (fun xs => ∀ x ∈ xs, Q38 x) := opens_slice Try.underlying22 (by kernel_rfl) opens_38
end Go.Proofs.Ytpkbckkminmdmaa
