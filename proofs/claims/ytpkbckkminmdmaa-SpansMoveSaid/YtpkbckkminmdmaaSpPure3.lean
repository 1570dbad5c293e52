/- Plain laws for a set that is kept as a row of flags: shifts, counts, the last one, its gaps looked for one by one: no Go and no memory. -/
import Derived.Test.YtpkbckkminmdmaaTmPure1
namespace Go.Proofs.Ytpkbckkminmdmaa.Sp

theorem runsOk_sep : ∀ (R : List (Nat × Nat)) (lo : Nat), runsOk lo R → ∀ (j j' p q p' q' : Nat), R[j]? = some (p, q) → R[j']? = some (p', q') → j < j' → q + 2 ≤ p'
  | [], _, _, j, _, _, _, _, _, h, _, _ => by simp at h
  | (a, b) :: r, lo, h, 0, j' + 1, p, q, p', q', h1, h2, _ => by
    simp at h1
    obtain ⟨rfl, rfl⟩ := h1
    rw [List.getElem?_cons_succ] at h2
    have h3 := lo_le r (b + 2) h.2.2 j' p' q' h2
    exact h3
  | (a, b) :: r, lo, h, j + 1, j' + 1, p, q, p', q', h1, h2, hj => by
    rw [List.getElem?_cons_succ] at h1 h2
    exact runsOk_sep r _ h.2.2 j j' p q p' q' h1 h2 (by omega)
  | _ :: _, _, _, _, 0, _, _, _, _, _, _, hj => by omega
where
  lo_le : ∀ (r : List (Nat × Nat)) (lo : Nat), runsOk lo r → ∀ (i p q : Nat), r[i]? = some (p, q) → lo ≤ p
    | [], _, _, i, p, q, h => by simp at h
    | (a, b) :: r, lo, h, 0, p, q, hp => by
      simp at hp
      obtain ⟨rfl, rfl⟩ := hp
      exact h.1
    | (a, b) :: r, lo, h, i + 1, p, q, hp => by
      rw [List.getElem?_cons_succ] at hp
      have := lo_le r _ h.2.2 i p q hp
      have := h.1; have := h.2.1
      omega
theorem mem_expand {R : List (Nat × Nat)} {lo x : Nat} (h : runsOk lo R) : x ∈ expand R ↔ ∃ j p q : Nat, R[j]? = some (p, q) ∧ p ≤ x ∧ x ≤ q := by
  unfold expand
  rw [List.mem_flatMap]
  constructor
  · rintro ⟨⟨p, q⟩, hg, hx⟩
    obtain ⟨j, hj⟩ := List.mem_iff_getElem?.1 hg
    have := runsOk_get R lo h j p q hj
    rw [List.mem_range'_1] at hx
    dsimp only at hx
    exact ⟨j, p, q, hj, by omega, by omega⟩
  · rintro ⟨j, p, q, hj, h1, h2⟩
    refine ⟨(p, q), List.mem_of_getElem? hj, ?_⟩
    rw [List.mem_range'_1]
    show p ≤ x ∧ x < p + (q - p + 1)
    omega
section
variable {l : List Nat}
theorem mem_runs (h : l.Pairwise (· < ·)) (h1 : ∀ d ∈ l, 1 ≤ d) {x : Nat} : x ∈ l ↔ ∃ j p q : Nat, (runs l)[j]? = some (p, q) ∧ p ≤ x ∧ x ≤ q := by
  obtain ⟨h2, h3⟩ := runs_ok h h1
  rw [← mem_expand h2, h3]
/-- A number begins a run just where it stands as the first one of the next run that was not met. -/
theorem run_starts (h : l.Pairwise (· < ·)) (h1 : ∀ d ∈ l, 1 ≤ d) {i n : Nat} (hb : ∀ j p q : Nat, j < n → (runs l)[j]? = some (p, q) → p < i) (hn : ∀ p q : Nat, (runs l)[n]? = some (p, q) → i ≤ p) :
    (i ∈ l ∧ (i = 1 ∨ i - 1 ∉ l)) ↔ ∃ q : Nat, (runs l)[n]? = some (i, q) := by
  have h2 := (runs_ok h h1).1
  constructor
  · rintro ⟨hi, hs⟩
    obtain ⟨j, p, q, hj, hp, hq⟩ := (mem_runs h h1).1 hi
    have hg := runsOk_get _ 1 h2 j p q hj
    have hpi : p = i := by
      rcases Nat.lt_or_ge p i with hc | hc
      · exfalso
        rcases hs with rfl | hs
        · omega
        · exact hs ((mem_runs h h1).2 ⟨j, p, q, hj, by omega, by omega⟩)
      · omega
    subst hpi
    rcases Nat.lt_trichotomy j n with hc | hc | hc
    · exact absurd (hb j p q hc hj) (Nat.lt_irrefl _)
    · subst hc; exact ⟨q, hj⟩
    · exfalso
      have hjl := (List.getElem?_eq_some_iff.1 hj).1
      obtain ⟨g, hg2⟩ : ∃ g, (runs l)[n]? = some g := ⟨_, List.getElem?_eq_getElem (by omega)⟩
      obtain ⟨p', q'⟩ := g
      have a1 := hn p' q' hg2
      have a2 := runsOk_sep _ 1 h2 n j p' q' p q hg2 hj hc
      have a3 := (runsOk_get _ 1 h2 n p' q' hg2).2.1
      omega
  · rintro ⟨q, hq⟩
    have hg := runsOk_get _ 1 h2 n i q hq
    refine ⟨(mem_runs h h1).2 ⟨n, i, q, hq, Nat.le_refl _, hg.2.1⟩, ?_⟩
    rcases Nat.lt_or_ge 1 i with hc | hc
    · refine .inr fun hx => ?_
      obtain ⟨j, p', q', hj, hp, hq'⟩ := (mem_runs h h1).1 hx
      rcases Nat.lt_trichotomy j n with hc | hc | hc
      · have := runsOk_sep _ 1 h2 j n p' q' i q hj hq hc
        omega
      · subst hc
        rw [hq] at hj
        injection hj with hj
        injection hj with e1 e2
        omega
      · have := runsOk_sep _ 1 h2 n j i q p' q' hq hj hc
        omega
    · exact .inl (by omega)
/-- Where a run ends. -/
theorem run_ends (h : l.Pairwise (· < ·)) (h1 : ∀ d ∈ l, 1 ≤ d) {n p q : Nat} (hn : (runs l)[n]? = some (p, q)) : q + 1 ∉ l := fun hx => by
  have h2 := (runs_ok h h1).1
  obtain ⟨j, p', q', hj, hp, hq'⟩ := (mem_runs h h1).1 hx
  have a1 := runsOk_get _ 1 h2 n p q hn
  rcases Nat.lt_trichotomy j n with hc | hc | hc
  · have := runsOk_sep _ 1 h2 j n p' q' p q hj hn hc
    omega
  · subst hc
    rw [hn] at hj
    injection hj with hj
    injection hj with e1 e2
    omega
  · have := runsOk_sep _ 1 h2 n j p q p' q' hn hj hc
    omega
/-- All runs were met where the numbers are at their end. -/
theorem runs_all (h : l.Pairwise (· < ·)) (h1 : ∀ d ∈ l, 1 ≤ d ∧ d ≤ 4096) {i n : Nat} (hi : 4096 < i) (hn : ∀ p q : Nat, (runs l)[n]? = some (p, q) → i ≤ p) : (runs l).take n = runs l := by
  rw [List.take_of_length_le]
  rcases Nat.lt_or_ge n (runs l).length with hc | hc
  · exfalso
    obtain ⟨g, hg⟩ : ∃ g, (runs l)[n]? = some g := ⟨_, List.getElem?_eq_getElem hc⟩
    obtain ⟨p, q⟩ := g
    have a1 := hn p q hg
    have a2 := runsOk_get _ 1 (runs_ok h (fun d hd => (h1 d hd).1)).1 n p q hg
    have := h1 p ((mem_runs h (fun d hd => (h1 d hd).1)).2 ⟨n, p, q, hg, Nat.le_refl _, a2.2.1⟩)
    omega
  · exact hc
end
/-- How many of 1 to m are in. -/
def cntTo (l : List Nat) (m : Nat) : Nat := (l.filter fun d => decide (d ≤ m)).length
theorem cntTo_zero {l : List Nat} (h1 : ∀ d ∈ l, 1 ≤ d) : cntTo l 0 = 0 := by
  unfold cntTo
  rw [List.filter_eq_nil_iff.2 (fun d hd => by have := h1 d hd; simp; omega)]
  rfl
theorem cntTo_succ {l : List Nat} (h : l.Pairwise (· < ·)) (m : Nat) : cntTo l (m + 1) = cntTo l m + if m + 1 ∈ l then 1 else 0 := by
  unfold cntTo
  induction l with
  | nil => simp
  | cons d r ih =>
    have h' := List.pairwise_cons.1 h
    have ih := ih h'.2
    rw [List.filter_cons, List.filter_cons]
    rcases Nat.lt_trichotomy d (m + 1) with hc | hc | hc
    · rw [if_pos (by simp; omega), if_pos (by simp; omega), List.length_cons, List.length_cons, ih]
      have : (m + 1 ∈ d :: r) ↔ m + 1 ∈ r := by
        rw [List.mem_cons]
        exact ⟨fun e => e.elim (fun e => by omega) id, .inr⟩
      by_cases hm : m + 1 ∈ r
      · rw [if_pos hm, if_pos (this.2 hm)]; try omega
      · rw [if_neg hm, if_neg (fun e => hm (this.1 e))]
    · subst hc
      have hn : m + 1 ∉ r := fun e => by have := h'.1 _ e; omega
      rw [if_neg hn] at ih
      rw [if_pos (by simp), if_neg (by simp), if_pos (by simp), List.length_cons, ih]
    · rw [if_neg (by simp; omega), if_neg (by simp; omega), ih]
      have hn : m + 1 ∉ r := fun e => by have := h'.1 _ e; omega
      rw [if_neg hn, if_neg (fun e => (List.mem_cons.1 e).elim (fun e => by omega) hn)]
theorem cntTo_all {l : List Nat} (h1 : ∀ d ∈ l, d ≤ 4096) : cntTo l 4096 = l.length := by
  unfold cntTo
  rw [List.filter_eq_self.2 (fun d hd => decide_eq_true (h1 d hd))]
theorem last_at {l : List Nat} {i : Nat} (h : l.Pairwise (· < ·)) (hi : i ∈ l) (hn : ∀ d ∈ l, d ≤ i) : l.getLastD 0 = i := by
  have h1 := asc_last h i hi
  have h2 : l.getLastD 0 ∈ l := by
    cases l with
    | nil => simp at hi
    | cons a r => rw [List.getLastD_cons]; exact getLast_mem r a
  have := hn _ h2
  omega
where
  getLast_mem : ∀ (r : List Nat) (a : Nat), r.getLastD a ∈ a :: r
    | [], a => by simp
    | b :: r, a => by
      rw [List.getLastD_cons]
      exact List.mem_cons_of_mem _ (getLast_mem r b)
end Go.Proofs.Ytpkbckkminmdmaa.Sp
