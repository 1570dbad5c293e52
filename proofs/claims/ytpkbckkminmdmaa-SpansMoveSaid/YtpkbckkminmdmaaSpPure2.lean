/- Plain laws on runs of rising lists, on a set filled in any order, settled and moved: no Go and no memory. -/
import Derived.Test.YtpkbckkminmdmaaSpPure1
namespace Go.Proofs.Ytpkbckkminmdmaa.Sp

/-! ### runs rise, lie apart, and have just what is in -/
def runsOk : Nat → List (Nat × Nat) → Prop
  | _, [] => True
  | lo, (p, q) :: r => lo ≤ p ∧ p ≤ q ∧ runsOk (q + 2) r
def expand (l : List (Nat × Nat)) : List Nat := l.flatMap fun g => List.range' g.1 (g.2 - g.1 + 1)
theorem runsGo_ok : ∀ (r : List Nat) (lo a b : Nat), lo ≤ a → a ≤ b → (b :: r).Pairwise (· < ·) → runsOk lo (runsGo a b r) ∧ expand (runsGo a b r) = List.range' a (b - a + 1) ++ r
  | [], lo, a, b, h1, h2, _ => by simp [runsGo, runsOk, expand, h1, h2]
  | d :: r, lo, a, b, h1, h2, h => by
    have h' := List.pairwise_cons.1 h
    have hd := h'.1 d (by simp)
    unfold runsGo
    by_cases e : d = b + 1
    · rw [if_pos e]
      obtain ⟨h3, h4⟩ := runsGo_ok r lo a d h1 (by omega) h'.2
      refine ⟨h3, ?_⟩
      rw [h4, e, show b + 1 - a + 1 = (b - a + 1) + 1 by omega, List.range'_concat]
      simp
      omega
    · rw [if_neg e]
      obtain ⟨h3, h4⟩ := runsGo_ok r (b + 2) d d (by omega) (Nat.le_refl _) h'.2
      refine ⟨⟨h1, h2, h3⟩, ?_⟩
      show List.range' a (b - a + 1) ++ expand (runsGo d d r) = _
      rw [h4]
      simp
theorem runs_ok {l : List Nat} (h : l.Pairwise (· < ·)) (h1 : ∀ d ∈ l, 1 ≤ d) : runsOk 1 (runs l) ∧ expand (runs l) = l := by
  cases l with
  | nil => exact ⟨trivial, rfl⟩
  | cons d r =>
    obtain ⟨h3, h4⟩ := runsGo_ok r 1 d d (h1 d (by simp)) (Nat.le_refl _) h
    refine ⟨h3, h4.trans ?_⟩
    simp
theorem runsOk_get : ∀ (l : List (Nat × Nat)) (lo : Nat), runsOk lo l → ∀ (i : Nat) (p q : Nat), l[i]? = some (p, q) → lo ≤ p ∧ p ≤ q ∧ ∀ p' q', l[i + 1]? = some (p', q') → q + 2 ≤ p'
  | [], _, _, i, p, q, h => by simp at h
  | (a, b) :: r, lo, h, 0, p, q, hp => by
    simp at hp
    obtain ⟨rfl, rfl⟩ := hp
    refine ⟨h.1, h.2.1, fun p' q' h' => ?_⟩
    rw [List.getElem?_cons_succ] at h'
    exact (runsOk_get r _ h.2.2 0 p' q' h').1
  | (a, b) :: r, lo, h, i + 1, p, q, hp => by
    rw [List.getElem?_cons_succ] at hp
    obtain ⟨h1, h2, h3⟩ := runsOk_get r _ h.2.2 i p q hp
    have := h.1; have := h.2.1
    exact ⟨by omega, h2, fun p' q' h' => h3 p' q' (by rwa [List.getElem?_cons_succ] at h')⟩
def widths (l : List (Nat × Nat)) : Nat := (l.map fun g => g.2 - g.1 + 1).sum
theorem expand_len (l : List (Nat × Nat)) : (expand l).length = widths l := by
  unfold expand widths
  rw [List.length_flatMap]
  congr 1
  refine List.map_congr_left fun g _ => ?_
  rw [List.length_range']
theorem widths_take {l : List (Nat × Nat)} {i p q : Nat} (h : l[i]? = some (p, q)) : widths (l.take (i + 1)) = widths (l.take i) + (q - p + 1) := by
  obtain ⟨hi, e⟩ := List.getElem?_eq_some_iff.1 h
  unfold widths
  rw [List.take_succ_eq_append_getElem hi, List.map_append, List.sum_append, e]
  simp
theorem runs_mem {l : List Nat} (h : l.Pairwise (· < ·)) (h1 : ∀ d ∈ l, 1 ≤ d) {i p q k : Nat} (hi : (runs l)[i]? = some (p, q)) (hp : p ≤ k) (hq : k ≤ q) : k ∈ l := by
  rw [← (runs_ok h h1).2]
  unfold expand
  rw [List.mem_flatMap]
  refine ⟨(p, q), List.mem_of_getElem? hi, ?_⟩
  rw [List.mem_range'_1]
  show p ≤ k ∧ k < p + (q - p + 1)
  omega
theorem runs_len {l : List Nat} (h : l.Pairwise (· < ·)) (h1 : ∀ d ∈ l, 1 ≤ d) : (runs l).length ≤ l.length := by
  have h2 := congrArg List.length (runs_ok h h1).2
  rw [expand_len] at h2
  rw [← h2]
  unfold widths
  clear h h1 h2
  generalize runs l = r
  induction r with
  | nil => simp
  | cons g r ih => simp; omega

/-! ### a set that is filled -/
def addAll (s : St) (by_ : List Int) (b : Int) : St := by_.foldl (fun s x => (add s ((b + x) % 4294967296)).1) s
def fill (b : Int) (by_ : List Int) : St := addAll ⟨b, []⟩ by_ b
theorem addAll_snoc (s : St) (l : List Int) (x b : Int) : addAll s (l ++ [x]) b = (add (addAll s l b) ((b + x) % 4294967296)).1 := by
  unfold addAll
  rw [List.foldl_append]
  rfl
theorem addAll_spec (b : Int) (hb : 0 ≤ b ∧ b < 4294967296) : ∀ (l : List Int) (s : St), (∀ x ∈ l, 0 ≤ x ∧ x < 4294967296) → s.Ok → s.base = b →
    (addAll s l b).Ok ∧ (addAll s l b).base = b ∧ ∀ d, d ∈ (addAll s l b).ds ↔ d ∈ s.ds ∨ ((d : Int) ∈ l ∧ 1 ≤ d ∧ d ≤ 4096)
  | [], s, _, h, e => ⟨h, e, fun d => by simp [addAll]⟩
  | x :: l, s, hx, h, e => by
    have h0 := hx x (by simp)
    have hd : dist s.base ((b + x) % 4294967296) = x.toNat := by rw [e]; unfold dist; omega
    have h1 : (add s ((b + x) % 4294967296)).1.Ok := h.add _
    have e1 : (add s ((b + x) % 4294967296)).1.base = b := by unfold add; split <;> exact e
    obtain ⟨a1, a2, a3⟩ := addAll_spec b hb l _ (fun y hy => hx y (by simp [hy])) h1 e1
    refine ⟨a1, a2, fun d => ?_⟩
    show d ∈ (addAll (add s ((b + x) % 4294967296)).1 l b).ds ↔ _
    rw [a3 d]
    have hm : d ∈ (add s ((b + x) % 4294967296)).1.ds ↔ d ∈ s.ds ∨ (d : Int) = x ∧ 1 ≤ d ∧ d ≤ 4096 := by
      unfold add
      by_cases hc : (may s.base ((b + x) % 4294967296) && !has s ((b + x) % 4294967296)) = true
      · rw [if_pos hc]
        show d ∈ ins (dist s.base _) s.ds ↔ _
        rw [hd, mem_ins]
        have hm : may s.base ((b + x) % 4294967296) = true := by
          rw [Bool.and_eq_true] at hc; exact hc.1
        unfold may at hm
        rw [hd, Bool.and_eq_true, decide_eq_true_iff, decide_eq_true_iff] at hm
        constructor
        · rintro (rfl | h)
          · exact .inr (by omega)
          · exact .inl h
        · rintro (h | h)
          · exact .inr h
          · exact .inl (by omega)
      · rw [if_neg hc]
        constructor
        · exact .inl
        · rintro (h | ⟨h2, h3, h4⟩)
          · exact h
          · have : d = x.toNat := by omega
            subst this
            have hm : may s.base ((b + x) % 4294967296) = true := by
              unfold may
              rw [hd, decide_eq_true h3, decide_eq_true h4]; rfl
            rw [hm, Bool.true_and] at hc
            unfold has at hc
            rw [hd] at hc
            simpa using hc
    rw [hm, List.mem_cons]
    constructor
    · rintro ((h | ⟨h, h'⟩) | ⟨h, h'⟩)
      · exact .inl h
      · exact .inr ⟨.inl h, h'⟩
      · exact .inr ⟨.inr h, h'⟩
    · rintro (h | ⟨h | h, h'⟩)
      · exact .inl (.inl h)
      · exact .inl (.inr ⟨h, h'⟩)
      · exact .inr ⟨h, h'⟩
theorem ok_new {b : Int} (hb : 0 ≤ b ∧ b < 4294967296) : St.Ok ⟨b, []⟩ := ⟨hb, List.Pairwise.nil, fun d h => by simp at h⟩
section
variable {b : Int} {l : List Int}
theorem fill_ok (hb : 0 ≤ b ∧ b < 4294967296) (hl : ∀ x ∈ l, 0 ≤ x ∧ x < 4294967296) : (fill b l).Ok := (addAll_spec b hb l _ hl (ok_new hb) rfl).1
theorem fill_base (hb : 0 ≤ b ∧ b < 4294967296) (hl : ∀ x ∈ l, 0 ≤ x ∧ x < 4294967296) : (fill b l).base = b := (addAll_spec b hb l _ hl (ok_new hb) rfl).2.1
theorem fill_mem (hb : 0 ≤ b ∧ b < 4294967296) (hl : ∀ x ∈ l, 0 ≤ x ∧ x < 4294967296) (d : Nat) : d ∈ (fill b l).ds ↔ (d : Int) ∈ l ∧ 1 ≤ d ∧ d ≤ 4096 := by
  have := (addAll_spec b hb l _ hl (ok_new hb) rfl).2.2 d
  rw [show fill b l = addAll ⟨b, []⟩ l b from rfl, this]
  simp
end
/-- Which numbers are in hangs on those that were added alone. -/
theorem fill_ds {a b : Int} {l m : List Int} (ha : 0 ≤ a ∧ a < 4294967296) (hb : 0 ≤ b ∧ b < 4294967296) (hl : ∀ x ∈ l, 0 ≤ x ∧ x < 4294967296) (hm : ∀ x, x ∈ m ↔ x ∈ l) : (fill a l).ds = (fill b m).ds :=
  asc_ext (fill_ok ha hl).asc (fill_ok hb (fun x hx => hl x ((hm x).1 hx))).asc fun d => by rw [fill_mem ha hl, fill_mem hb (fun x hx => hl x ((hm x).1 hx)), hm]
def within (l : List Int) (x : Int) : Bool := decide (x ∈ l) && (decide (1 ≤ x) && decide (x ≤ 4096))
theorem within_mem {b : Int} {l : List Int} (hb : 0 ≤ b ∧ b < 4294967296) (hl : ∀ x ∈ l, 0 ≤ x ∧ x < 4294967296) (d : Nat) : within l (d : Int) = decide (d ∈ (fill b l).ds) := by
  rw [Bool.eq_iff_iff, decide_eq_true_iff, fill_mem hb hl]
  unfold within
  simp
  omega
theorem key_add {b x : Int} (hx : 0 ≤ x) : (b + x) % 4294967296 = key b x.toNat := by unfold key; omega

/-! ### moved on -/
theorem has_moved {s : St} (h : s.Ok) {n k : Nat} (hn : n ≤ 10000) (hk : k < 4294967296) : has (movedTo s n) (key s.base k) = decide (n < k ∧ k ∈ s.ds) := by
  rw [Bool.eq_iff_iff]
  unfold has movedTo
  rw [decide_eq_true_iff, decide_eq_true_iff]
  dsimp only
  rw [List.mem_map]
  by_cases hnk : n ≤ k
  · have e : dist (key s.base n) (key s.base k) = k - n := by unfold dist key; omega
    rw [e]
    constructor
    · rintro ⟨d, hd, hdn⟩
      obtain ⟨h1, h2⟩ := List.mem_filter.1 hd
      have : n < d := by simpa using h2
      have : d = k := by omega
      subst this
      exact ⟨by omega, h1⟩
    · rintro ⟨h1, h2⟩
      exact ⟨k, List.mem_filter.2 ⟨h2, by simpa using h1⟩, rfl⟩
  · have e : dist (key s.base n) (key s.base k) = 4294967296 + k - n := by unfold dist key; omega
    rw [e]
    constructor
    · rintro ⟨d, hd, hdn⟩
      have := h.rng d (List.mem_filter.1 hd).1
      omega
    · rintro ⟨h1, _⟩
      omega
theorem has_key {s : St} {k : Nat} (hk : k < 4294967296) : has s (key s.base k) = decide (k ∈ s.ds) := by
  unfold has
  rw [dist_key hk]
theorem lead_mem {s : St} {k : Nat} (h1 : 1 ≤ k) (h2 : k ≤ lead 0 s.ds) : k ∈ s.ds := by
  have := lead_get s.ds 0 (k - 1) (by omega)
  rw [show 0 + 1 + (k - 1) = k by omega] at this
  exact List.mem_of_getElem? this
theorem lead_next {s : St} (h : s.Ok) : lead 0 s.ds + 1 ∉ s.ds := by
  have := lead_stop s.ds 0 h.asc (fun d hd => by have := h.rng d hd; omega)
  rwa [show 0 + 1 + lead 0 s.ds = lead 0 s.ds + 1 by omega] at this
theorem lead_moved {s : St} (h : s.Ok) : lead 0 (movedTo s (lead 0 s.ds)).ds = 0 := by
  have hm := h.moved (lead 0 s.ds)
  have hn := lead_next h
  have h1 : 1 ∉ (movedTo s (lead 0 s.ds)).ds := fun hx => by
    obtain ⟨d, hd, e⟩ := List.mem_map.1 (show 1 ∈ ((s.ds.filter fun d => decide (lead 0 s.ds < d)).map (· - lead 0 s.ds)) from hx)
    obtain ⟨h2, h3⟩ := List.mem_filter.1 hd
    have : lead 0 s.ds < d := by simpa using h3
    have : d = lead 0 s.ds + 1 := by omega
    subst this
    exact hn h2
  have h2 := settle_eq hm
  rw [settle_stop hm h1] at h2
  exact (congrArg Prod.snd h2).symm
theorem moved_len {s : St} (h : s.Ok) : (movedTo s (lead 0 s.ds)).ds.length + lead 0 s.ds = s.ds.length := by
  have e : (movedTo s (lead 0 s.ds)).ds = (s.ds.drop (lead 0 s.ds)).map (· - lead 0 s.ds) := congrArg (fun p => p.1.ds) (settle_eq h).symm
  rw [e, List.length_map, List.length_drop]
  have := lead_le 0 s.ds
  omega
theorem lead_bound {s : St} (h : s.Ok) : lead 0 s.ds ≤ 4096 := Nat.le_trans (lead_le _ _) h.len
/-- Where a move comes to. -/
theorem move_eq {s : St} (h : s.Ok) {k : Nat} (h1 : 1 ≤ k) (h2 : k ≤ 4096) : ∃ n, k ≤ n ∧ n ≤ 8192 ∧ move s (key s.base k) = (movedTo s n, n) ∧ (∀ j, k < j → j ≤ n → j ∈ s.ds) ∧ n + 1 ∉ s.ds := by
  have hm : may s.base (key s.base k) = true := by
    unfold may
    rw [dist_key (by omega), decide_eq_true h1, decide_eq_true h2]; rfl
  have ho := h.moved k
  refine ⟨k + lead 0 (movedTo s k).ds, by omega, by have := lead_bound ho; omega, ?_, fun j hj hjn => ?_, fun hx => ?_⟩
  · unfold move
    rw [if_pos hm, dist_key (by omega), settle_eq ho, moved_moved]
  · have := lead_mem (s := movedTo s k) (k := j - k) (by omega) (by omega)
    obtain ⟨d, hd, e⟩ := List.mem_map.1 (show j - k ∈ ((s.ds.filter fun d => decide (k < d)).map (· - k)) from this)
    obtain ⟨h2, h3⟩ := List.mem_filter.1 hd
    have : k < d := by simpa using h3
    have : d = j := by omega
    subst this
    exact h2
  · refine lead_next ho (List.mem_map.2 ⟨k + lead 0 (movedTo s k).ds + 1, List.mem_filter.2 ⟨hx, by simp; omega⟩, by omega⟩)
theorem move_no {s : St} {x : Int} (h : may s.base x = false) : move s x = (s, 0) := by
  unfold move
  rw [h]
  rfl
end Go.Proofs.Ytpkbckkminmdmaa.Sp
