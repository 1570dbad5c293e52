/- What is handed in, opened: from the reader's data to the kinds of the print. -/
import Derived.Test.YtpkbckkminmdmaaProg
import Derived.Test.YtpkbckkminmdmaaWWords
import Derived.ProofKit
import Derived.Deep.Slices
namespace Go.Proofs.Ytpkbckkminmdmaa
open Go.ChangeShapes Go.WideShapes Go.RowKit Go.Proofs.YtpkbckkminmdmaaW.PrintWords

/-- Whatever is read at a type is of a kind, and of a sort. -/
def Opens {α : Type} (P : Program) (t : TypeId) (d : Kd α) (Q : α → Prop) : Prop :=
  ∀ {H : Type} {enc : TypeId × Value → H} {w : World} {base : Nat} {spare : Nat → Bool} {held : Bool} {fuel : Nat} {cs : List Value} {x : DataW H × List MemPlace},
    DataW.trod enc P w base spare held fuel t cs = some x → ∃ a, d.K w a cs ∧ Q a
theorem opens_int {P : Program} {t : TypeId} {k : IntKind} (ht : P.underlying t = some (.int k)) : Opens P t (Kd.int k) (fun n => (Lit.int k n).wf = true) := by
  intro H enc w base spare held fuel cs x h
  obtain ⟨n, rfl, _, hw⟩ := DataW.trod_int ht h
  exact ⟨n, rfl, hw⟩
theorem opens_bool {P : Program} {t : TypeId} (ht : P.underlying t = some .bool) : Opens P t Kd.bool (fun _ => True) := by
  intro H enc w base spare held fuel cs x h
  obtain ⟨n, rfl, _⟩ := DataW.trod_bool ht h
  exact ⟨n, rfl, trivial⟩
theorem opens_slice {α : Type} {P : Program} {t e : TypeId} {d : Kd α} {Q : α → Prop} (ht : P.underlying t = some (.slice e)) (hc : P.cellsOf e = d.sz) (he : Opens P e d Q) : Opens P t (Kd.slice e d) (fun xs => ∀ x ∈ xs, Q x) := by
  intro H enc w base spare held fuel cs x h
  rcases Deep.open_slice ht h with ⟨rfl, _⟩ | ⟨a, len, cap, m, n, D, Pl, rfl, _, hl, hcm, hm, _, hel⟩
  · exact ⟨[], ⟨none, 0, rfl, Nat.le_refl _, rfl, Nat.zero_le _, fun h => absurd h (Nat.lt_irrefl _)⟩, by simp⟩
  · have hml : len ≤ m := by rw [hm]; split <;> omega
    have one : ∀ i : Nat, i < len → ∃ y : α, (∃ c, c.length = d.sz ∧ d.K w y c ∧ ∀ j u, c[j]? = some u → w.cell? (a.add (i * d.sz + j)) = some u) ∧ Q y := by
      intro i hi
      obtain ⟨cs', h1, h2⟩ := hel i (by omega)
      obtain ⟨y, hy, hq⟩ := he h2
      refine ⟨y, ⟨cs', d.K_len hy, hy, fun j u hu => ?_⟩, hq⟩
      obtain ⟨_, hlen, hcell⟩ := World.cells?_some h1
      have hj : j < cs'.length := by
        rcases Nat.lt_or_ge j cs'.length with h | h
        · exact h
        · rw [List.getElem?_eq_none h] at hu
          cases hu
      have := hcell j (by omega)
      rw [Deep.add_add, hc] at this
      rw [this, hu]
    have all : ∀ k : Nat, k ≤ len → ∃ ys : List α, ys.length = k ∧ (∀ y ∈ ys, Q y) ∧ ∀ i p, ys[i]? = some p → ∃ c, c.length = d.sz ∧ d.K w p c ∧ ∀ j u, c[j]? = some u → w.cell? (a.add (i * d.sz + j)) = some u := by
      intro k
      induction k with
      | zero => exact fun _ => ⟨[], rfl, by simp, by simp⟩
      | succ k ih =>
        intro hk
        obtain ⟨ys, h1, h2, h3⟩ := ih (by omega)
        obtain ⟨y, hy, hq⟩ := one k (by omega)
        refine ⟨ys ++ [y], by simp [h1], fun z hz => ?_, fun i p hp => ?_⟩
        · rcases List.mem_append.1 hz with hz | hz
          · exact h2 z hz
          · rw [List.mem_singleton.1 hz]
            exact hq
        · rcases Nat.lt_or_ge i ys.length with hi | hi
          · rw [List.getElem?_append_left hi] at hp
            exact h3 i p hp
          · rw [List.getElem?_append_right hi] at hp
            have hi2 : i - ys.length = 0 := by
              rcases Nat.eq_zero_or_pos (i - ys.length) with h | h
              · exact h
              · rw [List.getElem?_eq_none (by simp; omega)] at hp
                cases hp
            rw [hi2] at hp
            injection hp with hp
            subst hp
            have : i = k := by omega
            subst this
            exact hy
    obtain ⟨ys, h1, h2, h3⟩ := all len (Nat.le_refl _)
    refine ⟨ys, ⟨some a, cap, by rw [h1], by omega, rfl, by rw [h1]; have : cap ≤ maxLen := hcm; simp only [maxLen] at this; omega, fun _ => ⟨a, rfl, h3⟩⟩, h2⟩
theorem in_u16 {n : Int} (h : (Lit.int .u16 n).wf = true) : 0 ≤ n ∧ n < 65536 := by
  have h2 := of_decide_eq_true (Bool.and_eq_true_iff.1 h).1
  have h3 := of_decide_eq_true (Bool.and_eq_true_iff.1 h).2
  rw [show IntKind.u16.min = 0 by rfl] at h2
  rw [show IntKind.u16.max = 65535 by rfl] at h3
  omega
theorem in_u32 {n : Int} (h : (Lit.int .u32 n).wf = true) : 0 ≤ n ∧ n < 4294967296 := by
  have h2 := of_decide_eq_true (Bool.and_eq_true_iff.1 h).1
  have h3 := of_decide_eq_true (Bool.and_eq_true_iff.1 h).2
  rw [show IntKind.u32.min = 0 by rfl] at h2
  rw [show IntKind.u32.max = 4294967295 by rfl] at h3
  omega
theorem opens_u32s : Opens Try.prog 70 (Kd.slice 29 (Kd.int .u32)) (fun xs => ∀ x ∈ xs, (Lit.int .u32 x).wf = true) := opens_slice Try.underlying70 (by kernel_rfl) (opens_int Try.underlying29)
theorem opens_u16s : Opens Try.prog 120 (Kd.slice 30 (Kd.int .u16)) (fun xs => ∀ x ∈ xs, (Lit.int .u16 x).wf = true) := opens_slice Try.underlying120 (by kernel_rfl) (opens_int Try.underlying30)
theorem opens_u8s : Opens Try.prog 31 (Kd.slice 5 (Kd.int .u8)) (fun xs => ∀ x ∈ xs, (Lit.int .u8 x).wf = true) := opens_slice Try.underlying31 (by kernel_rfl) (opens_int Try.underlying5)
end Go.Proofs.Ytpkbckkminmdmaa
