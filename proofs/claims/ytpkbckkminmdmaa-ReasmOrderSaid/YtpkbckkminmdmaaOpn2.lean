/- The messages that are sent, opened. -/
import Derived.Test.YtpkbckkminmdmaaRsL5
import Derived.Test.YtpkbckkminmdmaaRsPure8
import Derived.SizedLaws
import Derived.IntWalk
namespace Go.Proofs.Ytpkbckkminmdmaa
open Go.RowKit Go.Proofs.YtpkbckkminmdmaaW.PrintWords Go.Proofs.YtpkbckkminmdmaaW.PrintMore Go.Proofs.Ytpkbckkminmdmaa.PReasmHeld
attribute [local go_sem] alloc_drewN setCell_drewN isMap_alloc isMap_drew isMap_drewN isMap_setCell cell_setMap frozen_setMap setMap_drew setMap_drewN size_setMap field_piece0 field_data1 field_data3 field_data6

theorem wrap_u32 (n : Int) : IntKind.u32.wrap n = n % 4294967296 := by rw [IntKind.wrap_u32]
def kSn : Kd Rs.Sn := Kd.iso (Kd.pair (Kd.int .u8) (Kd.pair Kd.bool (Kd.slice 31 (Kd.slice 5 (Kd.int .u8))))) (fun x : Rs.Sn => (x.stream, x.un, x.parts))
theorem kSn_open {w : World} {x : Rs.Sn} {cs : List Value} (h : kSn.K w x cs) : ∃ B c, cs = [.int .u8 x.stream, .bool x.un, .slice B x.parts.length c] ∧ x.parts.length ≤ c ∧ (Kd.slice 5 (Kd.int .u8)).C w B x.parts.length x.parts := by
  obtain ⟨_, _, rfl, rfl, ⟨_, _, rfl, rfl, ⟨B, c, rfl, l, g⟩⟩⟩ := h
  exact ⟨B, c, rfl, l, g⟩
def QSn (x : Rs.Sn) : Prop := (0 ≤ x.stream ∧ x.stream < 256) ∧ ∀ b ∈ x.parts, b.length ≤ 140737488351232
theorem in_u8 {n : Int} (h : (Lit.int .u8 n).wf = true) : 0 ≤ n ∧ n < 256 := by
  have h2 := of_decide_eq_true (Bool.and_eq_true_iff.1 h).1
  have h3 := of_decide_eq_true (Bool.and_eq_true_iff.1 h).2
  rw [show IntKind.u8.min = 0 by rfl] at h2
  rw [show IntKind.u8.max = 255 by rfl] at h3
  omega
/-- As Opens, for what is no larger than a machine reaches. -/
def OpensZ {α : Type} (P : Program) (t : TypeId) (d : Kd α) (Q : α → Prop) : Prop :=
  ∀ {H : Type} {enc : TypeId × Value → H} {w : World} {base : Nat} {spare : Nat → Bool} {held : Bool} {fuel : Nat} {cs : List Value} {x : DataW H × List MemPlace},
    DataW.trod enc P w base spare held fuel t cs = some x → (∀ n ∈ x.1.weights P t, n ≤ reachBytes) → ∃ a, d.K w a cs ∧ Q a
theorem weights_all {H : Type} {P : Program} {e : TypeId} : ∀ {l : List (DataW H)} {d : DataW H}, d ∈ l → ∀ n ∈ d.weights P e, n ∈ DataW.weightsAll P e l
  | y :: l, d, hd, n, hn => by
    rw [DataW.weightsAll, List.mem_append]
    rcases List.mem_cons.1 hd with rfl | h
    · exact .inl hn
    · exact .inr (weights_all h n hn)
theorem opensZ_of {α : Type} {P : Program} {t : TypeId} {d : Kd α} {Q : α → Prop} (h : Opens P t d Q) : OpensZ P t d Q := fun hx _ => h hx
theorem opensZ_slice {α : Type} {P : Program} {t e : TypeId} {d : Kd α} {Q : α → Prop} (ht : P.underlying t = some (.slice e)) (hc : P.cellsOf e = d.sz) (he : OpensZ P e d Q) : OpensZ P t (Kd.slice e d) (fun xs => (∀ x ∈ xs, Q x) ∧ xs.length * P.bytesOf e ≤ reachBytes) := by
  intro H enc w base spare held fuel cs x h hz
  rcases Deep.open_slice ht h with ⟨rfl, _⟩ | ⟨a, len, cap, m, n, D, Pl, rfl, _, hl, hcm, hm, rfl, hel⟩
  · exact ⟨[], ⟨none, 0, rfl, Nat.le_refl _, rfl, Nat.zero_le _, fun h => absurd h (Nat.lt_irrefl _)⟩, by simp, by simp⟩
  · have hml : len ≤ m := by rw [hm]; split <;> omega
    have hzw : (((List.range len).map D).length + ((List.range (m - len)).map fun j => D (len + j)).length) * P.bytesOf e ≤ reachBytes := hz _ (by simp [DataW.weights, ht])
    have hzi : ∀ i, i < len → ∀ n ∈ (D i).weights P e, n ≤ reachBytes := fun i hi n hn => hz n (by
      have h1 := weights_all (P := P) (e := e) (l := (List.range len).map D) (d := D i) (List.mem_map_of_mem (List.mem_range.2 hi)) n hn
      rw [DataW.weights, ht]
      simp only [List.mem_cons, List.mem_append]
      exact .inr (.inl h1))
    have one : ∀ i : Nat, i < len → ∃ y : α, (∃ c, c.length = d.sz ∧ d.K w y c ∧ ∀ j u, c[j]? = some u → w.cell? (a.add (i * d.sz + j)) = some u) ∧ Q y := by
      intro i hi
      obtain ⟨cs', h1, h2⟩ := hel i (by omega)
      obtain ⟨y, hy, hq⟩ := he h2 (hzi i hi)
      refine ⟨y, ⟨cs', d.K_len hy, hy, fun j u hu => ?_⟩, hq⟩
      obtain ⟨_, hlen, hcell⟩ := World.cells?_some h1
      have hj : j < cs'.length := by
        rcases Nat.lt_or_ge j cs'.length with h | h
        · exact h
        · rw [List.getElem?_eq_none h] at hu
          cases hu
      have := hcell j (by omega)
      rw [Deep.add_add, hc] at this
      rw [this, hu]
    have all : ∀ k : Nat, k ≤ len → ∃ ys : List α, ys.length = k ∧ (∀ y ∈ ys, Q y) ∧ ∀ i p, ys[i]? = some p → ∃ c, c.length = d.sz ∧ d.K w p c ∧ ∀ j u, c[j]? = some u → w.cell? (a.add (i * d.sz + j)) = some u := by
      intro k
      induction k with
      | zero => exact fun _ => ⟨[], rfl, by simp, by simp⟩
      | succ k ih =>
        intro hk
        obtain ⟨ys, h1, h2, h3⟩ := ih (by omega)
        obtain ⟨y, hy, hq⟩ := one k (by omega)
        refine ⟨ys ++ [y], by simp [h1], fun z hz => ?_, fun i p hp => ?_⟩
        · rcases List.mem_append.1 hz with hz | hz
          · exact h2 z hz
          · rw [List.mem_singleton.1 hz]
            exact hq
        · rcases Nat.lt_or_ge i ys.length with hi | hi
          · rw [List.getElem?_append_left hi] at hp
            exact h3 i p hp
          · rw [List.getElem?_append_right hi] at hp
            have hi2 : i - ys.length = 0 := by
              rcases Nat.eq_zero_or_pos (i - ys.length) with h | h
              · exact h
              · rw [List.getElem?_eq_none (by simp; omega)] at hp
                cases hp
            rw [hi2] at hp
            injection hp with hp
            subst hp
            have : i = k := by omega
            subst this
            exact hy
    obtain ⟨ys, h1, h2, h3⟩ := all len (Nat.le_refl _)
    refine ⟨ys, ⟨some a, cap, by rw [h1], by omega, rfl, by rw [h1]; have : cap ≤ maxLen := hcm; simp only [maxLen] at this; omega, fun _ => ⟨a, rfl, h3⟩⟩, h2, ?_⟩
    rw [List.length_map, List.length_range] at hzw
    rw [h1]
    exact Nat.le_trans (Nat.mul_le_mul_right _ (Nat.le_add_right _ _)) hzw
theorem opensZ_bytes : OpensZ Try.prog 31 (Kd.slice 5 (Kd.int .u8)) (fun xs => (∀ x ∈ xs, (Lit.int .u8 x).wf = true) ∧ xs.length ≤ 140737488351232) := by
  intro H enc w base spare held fuel cs x h hz
  obtain ⟨a, k, q1, q2⟩ := opensZ_slice (P := Try.prog) Try.underlying31 (by kernel_rfl) (opensZ_of (opens_int Try.underlying5)) h hz
  refine ⟨a, k, q1, ?_⟩
  rw [show Try.prog.bytesOf 5 = 1 by kernel_rfl, Nat.mul_one] at q2
  exact q2
theorem opensZ_parts : OpensZ Try.prog 146 (Kd.slice 31 (Kd.slice 5 (Kd.int .u8))) (fun xs => (∀ y ∈ xs, (∀ x ∈ y, (Lit.int .u8 x).wf = true) ∧ y.length ≤ 140737488351232) ∧ xs.length * Try.prog.bytesOf 31 ≤ reachBytes) := opensZ_slice Try.underlying146 (by kernel_rfl) opensZ_bytes
set_option maxRecDepth 100000 in
theorem opensZ_sn : OpensZ Try.prog 148 kSn QSn := by
  intro H enc w base spare held fuel cs x h hz
  obtain ⟨xs, n, _, rfl, hl, hxl, hf⟩ := DataW.trod_struct Try.underlying148 h
  have hl3 : cs.length = 3 := hl.trans (by kernel_rfl)
  obtain ⟨v0, v1, v2, rfl⟩ : ∃ a b c, cs = [a, b, c] := by
    match cs, hl3 with
    | [a, b, c], _ => exact ⟨a, b, c, rfl⟩
  have hx3 : xs.length = 3 := hxl
  obtain ⟨x0, x1, x2, rfl⟩ : ∃ a b c, xs = [a, b, c] := by
    match xs, hx3 with
    | [a, b, c], _ => exact ⟨a, b, c, rfl⟩
  have c5 : Try.prog.cellsOf 5 = 1 := by kernel_rfl
  have c4 : Try.prog.cellsOf 4 = 1 := by kernel_rfl
  have c6 : Try.prog.cellsOf 146 = 1 := by kernel_rfl
  have f0 : DataW.trod enc Try.prog w base spare held n 5 (([v0, v1, v2].drop 0).take (Try.prog.cellsOf 5)) = some x0 := hf 0 _ rfl
  have f1 : DataW.trod enc Try.prog w base spare held n 4 (([v0, v1, v2].drop 1).take (Try.prog.cellsOf 4)) = some x1 := hf 1 _ rfl
  have f2 : DataW.trod enc Try.prog w base spare held n 146 (([v0, v1, v2].drop 2).take (Try.prog.cellsOf 146)) = some x2 := hf 2 _ rfl
  rw [c5] at f0
  rw [c4] at f1
  rw [c6] at f2
  have hz2 : ∀ n ∈ x2.1.weights Try.prog 146, n ≤ reachBytes := fun n hn => hz n (by
    rw [DataW.weights, Try.underlying148]
    exact DataW.weights_mem_each (j := 2) (t := 146) rfl rfl n hn)
  obtain ⟨a0, k0, q0⟩ := opens_int (k := .u8) Try.underlying5 f0
  obtain ⟨a1, k1, _⟩ := opens_bool Try.underlying4 f1
  obtain ⟨a2, k2, q2, _⟩ := opensZ_parts f2 hz2
  exact ⟨⟨a0, a1, a2⟩, ⟨[v0], _, rfl, k0, [v1], _, rfl, k1, k2⟩, in_u8 q0, fun b hb => (q2 b hb).2⟩
theorem opensZ_sents : OpensZ Try.prog 52 (Kd.slice 148 kSn) (fun xs => (∀ x ∈ xs, QSn x) ∧ xs.length * Try.prog.bytesOf 148 ≤ reachBytes) := opensZ_slice Try.underlying52 (by kernel_rfl) opensZ_sn
end Go.Proofs.Ytpkbckkminmdmaa
