/- The meaning of package tsnmap as plain functions; plain laws on what came: no Go and no memory. -/
import Derived.Test.YtpkbckkminmdmaaSpPure2
namespace Go.Proofs.Ytpkbckkminmdmaa.Tm
open Go.Proofs.Ytpkbckkminmdmaa.Sp

structure St where
  s : Sp.St
  dups : List Int
def less32 (a b : Int) : Bool := decide (1 ≤ (b - a) % 4294967296) && decide ((b - a) % 4294967296 < 2147483648)
def begin_ (first : Int) : St := ⟨⟨(first - 1) % 4294967296, []⟩, []⟩
def look (m : St) (t : Int) : Nat := if may m.s.base t then (if has m.s t then 1 else 0) else if less32 m.s.base t then 2 else 1
def take (m : St) (t : Int) : St × Nat :=
  if look m t = 0 then (⟨(settle (add m.s t).1).1, m.dups⟩, 0)
  else if look m t = 1 ∧ m.dups.length < 64 then (⟨m.s, m.dups ++ [t]⟩, 1)
  else (m, look m t)
def forward (m : St) (t : Int) : St × Bool := if may m.s.base t then (⟨(move m.s t).1, m.dups⟩, true) else (m, false)
def dupsN (m : St) (dups : Int) : List Int := m.dups.take dups.toNat
structure St.Ok (m : St) : Prop where
  s : m.s.Ok
  len : m.dups.length ≤ 64
  rng : ∀ t ∈ m.dups, 0 ≤ t ∧ t < 4294967296

theorem ok_begin (first : Int) : (begin_ first).Ok := ⟨ok_new (by omega), by simp [begin_], by simp [begin_]⟩
theorem St.Ok.take {m : St} (h : m.Ok) {t : Int} (ht : 0 ≤ t ∧ t < 4294967296) : (take m t).1.Ok := by
  unfold Tm.take
  split
  · exact ⟨(h.s.add t).settle, h.len, h.rng⟩
  · split
    · rename_i hc
      refine ⟨h.s, ?_, fun x hx => ?_⟩
      · rw [List.length_append, List.length_singleton]; omega
      · rcases List.mem_append.1 hx with hx | hx
        · exact h.rng x hx
        · rw [List.mem_singleton.1 hx]; exact ht
    · exact h
theorem St.Ok.forward {m : St} (h : m.Ok) (t : Int) : (forward m t).1.Ok := by
  unfold Tm.forward
  split
  · exact ⟨h.s.move t, h.len, h.rng⟩
  · exact h
theorem look_lt (m : St) (t : Int) : look m t ≤ 2 := by
  unfold look
  split
  · split <;> omega
  · split <;> omega
theorem take_code (m : St) (t : Int) : (take m t).2 = look m t := by
  unfold take
  by_cases h : look m t = 0
  · rw [if_pos h, h]
  · rw [if_neg h]
    by_cases h1 : look m t = 1 ∧ m.dups.length < 64
    · rw [if_pos h1, h1.1]
    · rw [if_neg h1]

/-! ### which one is the end of a row -/
theorem lead_unique : ∀ {l : List Nat} {n k : Nat}, l.Pairwise (· < ·) → (∀ d ∈ l, k < d) → (∀ j, k < j → j ≤ k + n → j ∈ l) → k + n + 1 ∉ l → lead k l = n := fun {l n k} h hk h1 h2 => by
  have h3 := lead_stop l k h hk
  rcases Nat.lt_trichotomy (lead k l) n with hc | hc | hc
  · exact absurd (h1 (k + 1 + lead k l) (by omega) (by omega)) h3
  · exact hc
  · have := lead_get l k n hc
    rw [show k + 1 + n = k + n + 1 by omega] at this
    exact absurd (List.mem_of_getElem? this) h2
theorem mem_moved {s : Sp.St} {n d : Nat} : d ∈ (movedTo s n).ds ↔ 1 ≤ d ∧ d + n ∈ s.ds := by
  unfold movedTo
  dsimp only
  rw [List.mem_map]
  constructor
  · rintro ⟨e, he, rfl⟩
    obtain ⟨h1, h2⟩ := List.mem_filter.1 he
    have : n < e := by simpa using h2
    exact ⟨by omega, by rwa [show e - n + n = e by omega]⟩
  · rintro ⟨h1, h2⟩
    exact ⟨d + n, List.mem_filter.2 ⟨h2, by simp; omega⟩, by omega⟩
theorem st_ext {a b : Sp.St} (ha : a.Ok) (hb : b.Ok) (h : a.base = b.base) (hd : ∀ d, d ∈ a.ds ↔ d ∈ b.ds) : a = b := by
  have := asc_ext ha.asc hb.asc hd
  cases a; cases b
  simp only at h this
  subst h this
  rfl
/-- What is settled behind a move is settled. -/
theorem settle_moved {s : Sp.St} (h : s.Ok) {n : Nat} (hn : ∀ j, 1 ≤ j → j ≤ n → j ∈ s.ds) : (settle (movedTo s n)).1 = movedTo s (lead 0 s.ds) := by
  have ho := h.moved n
  rw [settle_eq ho, moved_moved]
  show movedTo s (n + lead 0 (movedTo s n).ds) = _
  have h1 : n ≤ lead 0 s.ds := by
    rcases Nat.lt_or_ge (lead 0 s.ds) n with hc | hc
    · exact absurd (hn (lead 0 s.ds + 1) (by omega) (by omega)) (lead_next h)
    · exact hc
  have e : lead 0 (movedTo s n).ds = lead 0 s.ds - n := by
    refine lead_unique ho.asc (fun d hd => by have := (ho.rng d hd); omega) (fun j hj hjn => mem_moved.2 ⟨by omega, lead_mem (by omega) (by omega)⟩) (fun hx => ?_)
    have := (mem_moved.1 hx).2
    rw [show 0 + (lead 0 s.ds - n) + 1 + n = lead 0 s.ds + 1 by omega] at this
    exact lead_next h this
  rw [e, show n + (lead 0 s.ds - n) = lead 0 s.ds by omega]

/-! ### what came, by how far beyond where the map began -/
/-- A map at b to which TSNs came: those so far beyond. -/
def cameS (b : Int) (l : List Int) : Sp.St := movedTo (fill b l) (lead 0 (fill b l).ds)
section
variable {b : Int} {l : List Int}
theorem cameS_ok (hb : 0 ≤ b ∧ b < 4294967296) (hl : ∀ x ∈ l, 0 ≤ x ∧ x < 4294967296) : (cameS b l).Ok := (fill_ok hb hl).moved _
theorem cameS_nil (hb : 0 ≤ b ∧ b < 4294967296) : cameS b [] = ⟨b, []⟩ := moved_zero (ok_new hb)
theorem cameS_base (hb : 0 ≤ b ∧ b < 4294967296) (hl : ∀ x ∈ l, 0 ≤ x ∧ x < 4294967296) : (cameS b l).base = key b (lead 0 (fill b l).ds) := by
  unfold cameS movedTo
  dsimp only
  rw [fill_base hb hl]
/-- What a TSN is, that far beyond where the map began. -/
theorem look_came (hb : 0 ≤ b ∧ b < 4294967296) (hl : ∀ x ∈ l, 0 ≤ x ∧ x < 4294967296) {k : Nat} (h1 : 1 ≤ k) (h2 : k ≤ 4096) (du : List Int) : look ⟨cameS b l, du⟩ (key b k) = if (k : Int) ∈ l then 1 else 0 := by
  have ho := fill_ok hb hl
  have hfb := fill_base hb hl
  have hm := fill_mem hb hl k
  have hn := lead_bound ho
  have hh := has_moved (s := fill b l) ho (n := lead 0 (fill b l).ds) (k := k) (by omega) (by omega)
  rw [hfb] at hh
  have hmay : may (cameS b l).base (key b k) = decide (lead 0 (fill b l).ds < k) := by
    rw [cameS_base hb hl]
    unfold may dist key
    rw [Bool.eq_iff_iff]
    simp only [Bool.and_eq_true, decide_eq_true_iff]
    omega
  have hin : k ≤ lead 0 (fill b l).ds → (k : Int) ∈ l := fun h => (hm.1 (lead_mem h1 h)).1
  unfold look
  dsimp only
  rw [hmay]
  by_cases hc : lead 0 (fill b l).ds < k
  · rw [if_pos (decide_eq_true hc)]
    rw [show has (cameS b l) (key b k) = _ from hh]
    by_cases hk : (k : Int) ∈ l
    · rw [if_pos (decide_eq_true ⟨hc, hm.2 ⟨hk, h1, h2⟩⟩), if_pos hk]
    · rw [if_neg (by simpa using fun _ h => hk (hm.1 h).1), if_neg hk]
  · rw [if_neg (by simpa using hc), if_pos (hin (by omega))]
    have : less32 (cameS b l).base (key b k) = false := by
      rw [cameS_base hb hl]
      unfold less32 key
      rw [Bool.and_eq_false_iff, decide_eq_false_iff_not, decide_eq_false_iff_not]
      omega
    rw [this]
    rfl
/-- A new one comes. -/
theorem came_new (hb : 0 ≤ b ∧ b < 4294967296) (hl : ∀ x ∈ l, 0 ≤ x ∧ x < 4294967296) {k : Nat} (h1 : 1 ≤ k) (h2 : k ≤ 4096) (hk : (k : Int) ∉ l) : (settle (add (cameS b l) (key b k)).1).1 = cameS b (l ++ [(k : Int)]) := by
  have ho := fill_ok hb hl
  have hl' : ∀ x ∈ l ++ [(k : Int)], 0 ≤ x ∧ x < 4294967296 := fun x hx => by
    rcases List.mem_append.1 hx with hx | hx
    · exact hl x hx
    · rw [List.mem_singleton.1 hx]; omega
  have ho' := fill_ok hb hl'
  have hfb := fill_base hb hl
  have hfb' := fill_base hb hl'
  have hn := lead_bound ho
  have hlt : lead 0 (fill b l).ds < k := by
    rcases Nat.lt_or_ge (lead 0 (fill b l).ds) k with h | h
    · exact h
    · exact absurd ((fill_mem hb hl k).1 (lead_mem h1 h)).1 hk
  have hlk := look_came hb hl h1 h2 []
  rw [if_neg hk] at hlk
  have hc : (may (cameS b l).base (key b k) && !has (cameS b l) (key b k)) = true := by
    unfold look at hlk
    cases e1 : may (cameS b l).base (key b k) with
    | false =>
      rw [e1] at hlk
      dsimp only at hlk
      simp only [Bool.false_eq_true, if_false] at hlk
      split at hlk <;> omega
    | true =>
      cases e2 : has (cameS b l) (key b k) with
      | false => rfl
      | true => simp [e1, e2] at hlk
  have e : (add (cameS b l) (key b k)).1 = movedTo (fill b (l ++ [(k : Int)])) (lead 0 (fill b l).ds) := by
    refine st_ext ((cameS_ok hb hl).add _) (ho'.moved _) ?_ fun d => ?_
    · unfold add
      rw [if_pos hc]
      show (cameS b l).base = key (fill b (l ++ [(k : Int)])).base _
      rw [cameS_base hb hl, hfb']
    · have e2 : (add (cameS b l) (key b k)).1.ds = ins (dist (cameS b l).base (key b k)) (cameS b l).ds := by unfold add; rw [if_pos hc]
      have e3 : dist (cameS b l).base (key b k) = k - lead 0 (fill b l).ds := by rw [cameS_base hb hl]; unfold dist key; omega
      rw [e2, e3, mem_ins, mem_moved, fill_mem hb hl', show (d ∈ (cameS b l).ds ↔ _) from mem_moved, fill_mem hb hl, List.mem_append, List.mem_singleton]
      constructor
      · rintro (h | ⟨h, h3, h4, h5⟩)
        · exact ⟨by omega, .inr (by omega), by omega, by omega⟩
        · exact ⟨h, .inl h3, h4, h5⟩
      · rintro ⟨h, h3 | h3, h4, h5⟩
        · exact .inr ⟨h, h3, h4, h5⟩
        · exact .inl (by omega)
  rw [e, settle_moved ho' (fun j hj hjn => (fill_mem hb hl' j).2 (by
    obtain ⟨a1, a2, a3⟩ := (fill_mem hb hl j).1 (lead_mem hj hjn)
    exact ⟨List.mem_append_left _ a1, a2, a3⟩))]
  rfl
theorem came_same (hb : 0 ≤ b ∧ b < 4294967296) (hl : ∀ x ∈ l, 0 ≤ x ∧ x < 4294967296) {m : List Int} (hm : ∀ x, x ∈ m ↔ x ∈ l) : cameS b m = cameS b l := by
  have hm' : ∀ x ∈ m, 0 ≤ x ∧ x < 4294967296 := fun x hx => hl x ((hm x).1 hx)
  have e := fill_ds hb hb hl hm
  have e2 : fill b m = fill b l := st_ext (fill_ok hb hm') (fill_ok hb hl) (by rw [fill_base hb hm', fill_base hb hl]) (fun d => by rw [e])
  unfold cameS
  rw [e2]
theorem take_came (hb : 0 ≤ b ∧ b < 4294967296) (hl : ∀ x ∈ l, 0 ≤ x ∧ x < 4294967296) {k : Nat} (h1 : 1 ≤ k) (h2 : k ≤ 4096) (du : List Int) :
    (take ⟨cameS b l, du⟩ (key b k)).1.s = cameS b (l ++ [(k : Int)]) ∧ (take ⟨cameS b l, du⟩ (key b k)).2 = if (k : Int) ∈ l then 1 else 0 := by
  refine ⟨?_, by rw [take_code, look_came hb hl h1 h2]⟩
  have hlk := look_came hb hl h1 h2 du
  unfold take
  by_cases hk : (k : Int) ∈ l
  · rw [if_pos hk] at hlk
    have e : cameS b (l ++ [(k : Int)]) = cameS b l := came_same hb hl fun x => by
      rw [List.mem_append, List.mem_singleton]
      exact ⟨fun h => h.elim id (fun h => by rw [h]; exact hk), .inl⟩
    rw [e, if_neg (by omega)]
    split <;> rfl
  · rw [if_neg hk] at hlk
    rw [if_pos hlk]
    exact came_new hb hl h1 h2 hk
end
end Go.Proofs.Ytpkbckkminmdmaa.Tm
