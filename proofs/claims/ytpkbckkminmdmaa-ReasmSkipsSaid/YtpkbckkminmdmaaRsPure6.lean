/- Plain laws: messages of one piece on one stream, of which some came and the others are skipped. -/
import Derived.Test.YtpkbckkminmdmaaRsPure4
namespace Go.Proofs.Ytpkbckkminmdmaa.Rs

def sel (c : Nat → Bool) (a b : Nat) : List Nat := (List.range' a (b - a)).filter c
theorem sel_nil (c : Nat → Bool) {a b : Nat} (h : b ≤ a) : sel c a b = [] := by
  unfold sel
  rw [Nat.sub_eq_zero_of_le h]
  rfl
theorem sel_snoc (c : Nat → Bool) {a b : Nat} (h : a ≤ b) : sel c a (b + 1) = sel c a b ++ (if c b = true then [b] else []) := by
  unfold sel
  rw [show b + 1 - a = (b - a) + 1 by omega, List.range'_concat, List.filter_append]
  congr 1
  rw [show a + 1 * (b - a) = b by omega, List.filter_cons]
  rfl
theorem sel_cons (c : Nat → Bool) {a b : Nat} (h : a < b) : sel c a b = (if c a = true then [a] else []) ++ sel c (a + 1) b := by
  unfold sel
  rw [show b - a = (b - (a + 1)) + 1 by omega, List.range'_succ, List.filter_cons]
  split <;> rfl
theorem sel_mem {c : Nat → Bool} {a b i : Nat} (h : i ∈ sel c a b) : a ≤ i ∧ i < b ∧ c i = true := by
  unfold sel at h
  rw [List.mem_filter, List.mem_range'_1] at h
  exact ⟨h.1.1, by omega, h.2⟩
theorem sel_len (c : Nat → Bool) (a b : Nat) : (sel c a b).length ≤ b - a := by
  unfold sel
  exact Nat.le_trans (List.length_filter_le _ _) (by simp)
theorem sel_split (c : Nat → Bool) {a k b : Nat} (h1 : a ≤ k) (h2 : k ≤ b) : sel c a b = sel c a k ++ sel c k b := by
  unfold sel
  rw [← List.filter_append, show b - a = (k - a) + (b - k) by omega, ← List.range'_append]
  rw [show a + 1 * (k - a) = k by omega]
def lone (first : Int) (i : Nat) : Pc := ⟨(first + i) % 4294967296, 0, i, false, true, true, [(i : Int)]⟩
def lmsg (i : Nat) : Ms := ⟨0, true, [(i : Int)]⟩
/-- Of the first m messages some came; the k-th is next. -/
def ss (first : Int) (c : Nat → Bool) (k m : Nat) : St := ⟨(sel c k m).map (lone first), [(k : Int)], (sel c 0 k).map lmsg⟩
theorem whole_lone {L : List Pc} {p : Pc} (hp : p ∈ L) (hf : p.fi = true) (hl : p.la = true) : whole L p = some [p] := by
  obtain ⟨n, hn⟩ : ∃ n, L.length = n + 1 := ⟨L.length - 1, by have := List.length_pos_of_mem hp; omega⟩
  unfold whole
  rw [hn]
  simp only [back, fwd, hf, hl, if_true, Option.bind]
section
variable {first : Int} {c : Nat → Bool} {k m n i : Nat}
theorem held_ss (h : k ≤ m) : held (ss first c k m) = (sel c 0 m).length := by
  have h1 : ∀ l : List Nat, bytesOf (l.map (lone first)) = l.length := fun l => by
    induction l with
    | nil => rfl
    | cons x l ih =>
      rw [List.map_cons, bytesOf_cons, ih]
      simp only [lone, List.length_cons, List.length_nil]
      omega
  have h2 : ∀ l : List Nat, bytesOfM (l.map lmsg) = l.length := fun l => by
    induction l with
    | nil => rfl
    | cons x l ih =>
      simp only [bytesOfM, List.map_cons, List.sum_cons] at ih ⊢
      rw [ih]
      simp only [lmsg, List.length_cons, List.length_nil]
      omega
  rw [held_eq]
  show bytesOf ((sel c k m).map (lone first)) + bytesOfM ((sel c 0 k).map lmsg) = _
  rw [h1, h2, sel_split c (Nat.zero_le k) h, List.length_append]
  omega
theorem held_lmsg (k : Nat) (l : List Nat) : held ⟨[], [(k : Int)], l.map lmsg⟩ = l.length := by
  rw [held_eq]
  show bytesOf [] + bytesOfM (l.map lmsg) = _
  induction l with
  | nil => rfl
  | cons x l ih =>
    simp only [bytesOfM, bytesOf, List.map_nil, List.sum_nil, List.map_cons, List.sum_cons] at ih ⊢
    simp only [lmsg, List.length_cons, List.length_nil] at ih ⊢
    omega
theorem next_ss : nextOf (ss first c k m) 0 = k := rfl
theorem bump_ss (hk : k < 100) (L : List Pc) (r : List Ms) : bump ⟨L, [(k : Int)], r⟩ 0 = ⟨L, [((k + 1 : Nat) : Int)], r⟩ := by
  unfold bump nextOf inc16
  simp only [Int.toNat_zero, List.set_cons_zero, List.getD_cons_zero]
  rw [show ((k : Int) + 1) % 65536 = ((k + 1 : Nat) : Int) by omega]
theorem fits_lone (t : Nat) : fits (lone first i) 0 (t : Int) = decide (i = t) := by
  unfold fits lone
  simp only [Bool.not_false, Bool.true_and, beq_self_eq_true]
  rw [Bool.eq_iff_iff]
  simp
  omega
theorem tsn_lone {i j : Nat} (hi : i < 100) (hj : j < 100) (h : (lone first i).tsn = (lone first j).tsn) : i = j := by
  have h : (first + (i : Int)) % 4294967296 = (first + j) % 4294967296 := h
  omega
theorem wait_yes (hc : c k = true) (hkm : k < m) (hm : m ≤ 100) : waiting (ss first c k m) 0 = some ⟨(sel c (k + 1) m).map (lone first), [(k : Int)], (sel c 0 (k + 1)).map lmsg⟩ := by
  have hL : (ss first c k m).L = lone first k :: (sel c (k + 1) m).map (lone first) := by
    show (sel c k m).map _ = _
    rw [sel_cons c hkm, if_pos hc]
    rfl
  have ho : ordered (ss first c k m).L 0 (nextOf (ss first c k m) 0) = some [lone first k] := by
    unfold ordered
    rw [hL, List.findSome?_cons, next_ss, fits_lone, if_pos (by simp), whole_lone (by simp) rfl rfl]
  unfold waiting
  rw [ho]
  show some (ready _ _) = _
  unfold ready
  congr 2
  · unfold without
    rw [hL, List.filter_cons, if_neg (by simp), List.filter_eq_self]
    intro x hx
    obtain ⟨j, hj, rfl⟩ := List.mem_map.1 hx
    have hj := sel_mem hj
    simp only [List.any_cons, List.any_nil, Bool.or_false, Bool.not_eq_true', beq_eq_false_iff_ne]
    intro e
    have := tsn_lone (first := first) (i := k) (j := j) (by omega) (by omega) e
    omega
  · show (sel c 0 k).map lmsg ++ [msgOf [lone first k]] = _
    rw [sel_snoc c (Nat.zero_le k), if_pos hc, List.map_append]
    rfl
theorem wait_no (hc : k < m → c k = false) (hm : m ≤ 100) : waiting (ss first c k m) 0 = none := by
  unfold waiting ordered
  rw [Option.map_eq_none_iff, List.findSome?_eq_none_iff]
  intro x hx
  obtain ⟨j, hj, rfl⟩ := List.mem_map.1 (show x ∈ (sel c k m).map (lone first) from hx)
  have hj := sel_mem hj
  rw [next_ss, fits_lone, if_neg]
  rw [decide_eq_true_eq]
  rintro rfl
  rw [hc hj.2.1] at hj
  cases hj.2.2
theorem on_ss (hm : m ≤ 100) : ∀ (n k : Nat), k ≤ m → (sel c k m).length < n → ∃ k', k ≤ k' ∧ k' ≤ m ∧ on 0 n (ss first c k m) = ss first c k' m ∧ (k' < m → c k' = false)
  | 0, _, _, h => by omega
  | n + 1, k, hk, h => by
    unfold on
    by_cases hy : k < m ∧ c k = true
    · rw [wait_yes hy.2 hy.1 hm]
      dsimp only
      rw [bump_ss (by omega)]
      have hl : (sel c (k + 1) m).length < n := by
        rw [sel_cons c hy.1, if_pos hy.2] at h
        simp at h
        omega
      obtain ⟨k', a, b, d, e⟩ := on_ss hm n (k + 1) (by omega) hl
      exact ⟨k', by omega, b, d, e⟩
    · have hno : k < m → c k = false := fun h1 => by
        cases h2 : c k with
        | false => rfl
        | true => exact absurd ⟨h1, h2⟩ hy
      rw [wait_no hno hm]
      exact ⟨k, Nat.le_refl _, hk, rfl, hno⟩
theorem onAll_ss (hm : m ≤ 100) (hk : k ≤ m) : ∃ k', k ≤ k' ∧ k' ≤ m ∧ onAll (ss first c k m) 0 = ss first c k' m ∧ (k' < m → c k' = false) := by
  unfold onAll
  exact on_ss hm _ k hk (by show _ < ((sel c k m).map (lone first)).length + 1; rw [List.length_map]; omega)
theorem put_ss (hc : c m = true) (hk : k ≤ m) (hm : m < 100) : ∃ k', k' ≤ m + 1 ∧ put (ss first c k m) (lone first m) = (ss first c k' (m + 1), 0) ∧ (k' < m + 1 → c k' = false) := by
  have hget : get (ss first c k m).L (lone first m).tsn = none := by
    unfold get
    rw [List.find?_eq_none]
    intro x hx
    obtain ⟨j, hj, rfl⟩ := List.mem_map.1 (show x ∈ (sel c k m).map (lone first) from hx)
    have hj := sel_mem hj
    rw [beq_iff_eq]
    intro e
    have := tsn_lone (first := first) (i := j) (j := m) (by omega) (by omega) e
    omega
  have e1 : ({ ss first c k m with L := (ss first c k m).L ++ [lone first m] } : St) = ss first c k (m + 1) := by
    unfold ss
    rw [sel_snoc c hk, if_pos hc, List.map_append]
    rfl
  have h3 : (!(lone first m).un && less16 (lone first m).ssn (nextOf (ss first c k m) (lone first m).stream)) = false := by
    show (!false && less16 (m : Int) (k : Int)) = false
    unfold less16
    simp only [Bool.not_false, Bool.true_and, Bool.and_eq_false_iff, decide_eq_false_iff_not]
    omega
  have h1 : ¬ (ss first c k m).next.length ≤ (lone first m).stream.toNat := show ¬ 1 ≤ (0 : Int).toNat by decide
  have h2 : ¬ (lone first m).bytes.length = 0 := show ¬ [(m : Int)].length = 0 by simp
  rw [put_ord h1 h2 h3 hget rfl, e1]
  · obtain ⟨k', a, b, d, e⟩ := onAll_ss (first := first) (c := c) (k := k) (m := m + 1) (by omega) (by omega)
    refine ⟨k', b, ?_, e⟩
    show (onAll (ss first c k (m + 1)) 0, (0 : Int)) = _
    rw [d]
theorem skipTo_ss (hi : i < n) (hn : n ≤ 100) : ∀ (f k : Nat), k ≤ i + 1 → i + 1 - k < f → skipTo 0 (i : Int) f (ss first c k n) = ss first c (i + 1) n
  | 0, _, _, h => by omega
  | f + 1, k, hk, h => by
    unfold skipTo
    by_cases e : k = i + 1
    · subst e
      rw [if_pos (by rw [next_ss]; unfold inc16; omega)]
    · rw [if_neg (by rw [next_ss]; unfold inc16; omega)]
      cases hc : c k with
      | true =>
        rw [wait_yes hc (by omega) hn]
        simp only [Option.getD_some]
        rw [bump_ss (by omega)]
        exact skipTo_ss hi hn f (k + 1) (by omega) (by omega)
      | false =>
        rw [wait_no (fun _ => hc) hn]
        simp only [Option.getD_none]
        have e2 : bump (ss first c k n) 0 = ss first c (k + 1) n := by
          unfold ss
          rw [bump_ss (by omega), sel_cons c (show k < n by omega), if_neg (by rw [hc]; simp), sel_snoc c (Nat.zero_le k), if_neg (by rw [hc]; simp), List.append_nil]
          rfl
        rw [e2]
        exact skipTo_ss hi hn f (k + 1) (by omega) (by omega)
theorem skip_ss (cum : Int) (hi : i < n) (hn : n ≤ 100) (hk : k ≤ n) (hkc : k < n → c k = false) : ∃ k', i + 1 ≤ k' ∧ k' ≤ n ∧ skip (ss first c k n) cum [(0, (i : Int))] = (ss first c k' n, 0) ∧ (k' < n → c k' = false) := by
  have hp : parts (ss first c k n).L cum = (ss first c k n).L := by
    unfold parts
    rw [List.filter_eq_self]
    intro x hx
    obtain ⟨j, hj, rfl⟩ := List.mem_map.1 (show x ∈ (sel c k n).map (lone first) from hx)
    rw [whole_lone hx rfl rfl]
    simp
  have e0 : skip (ss first c k n) cum [(0, (i : Int))] = (skip1 (ss first c k n) 0 i, 0) := by
    unfold skip
    rw [if_neg (by simp [ss]), hp]
    rfl
  rw [e0]
  unfold skip1
  by_cases hlt : i + 1 ≤ k
  · rw [if_pos]
    · exact ⟨k, hlt, hk, rfl, hkc⟩
    · rw [next_ss]
      unfold less16
      simp only [Bool.and_eq_true, bne_iff_ne, Bool.not_eq_true', Bool.and_eq_false_iff, decide_eq_false_iff_not]
      omega
  · rw [if_neg]
    · simp only
      rw [skipTo_ss hi hn 65537 k (by omega) (by omega)]
      have e2 : ({ ss first c (i + 1) n with L := late (ss first c (i + 1) n) 0 } : St) = ss first c (i + 1) n := by
        have : late (ss first c (i + 1) n) 0 = (ss first c (i + 1) n).L := by
          unfold late
          rw [List.filter_eq_self]
          intro x hx
          obtain ⟨j, hj, rfl⟩ := List.mem_map.1 (show x ∈ (sel c (i + 1) n).map (lone first) from hx)
          have hj := sel_mem hj
          rw [next_ss]
          show (false || (0 : Int) != 0 || !less16 (j : Int) ((i + 1 : Nat) : Int)) = true
          unfold less16
          simp only [bne_self_eq_false, Bool.false_or, Bool.not_eq_true', Bool.and_eq_false_iff, decide_eq_false_iff_not]
          omega
        rw [this]
      rw [e2]
      obtain ⟨k', a, b, d, e⟩ := onAll_ss (first := first) (c := c) (k := i + 1) (m := n) hn (by omega)
      exact ⟨k', a, b, by rw [d], e⟩
    · rw [next_ss]
      unfold less16
      simp only [Bool.and_eq_true, bne_iff_ne, Bool.not_eq_true', Bool.and_eq_false_iff, decide_eq_false_iff_not]
      omega
/-- Behind all skips: what came is ready, in order; the next number is the one behind. -/
theorem ss_end : ss first c n n = ⟨[], [(n : Int)], (sel c 0 n).map lmsg⟩ := by
  unfold ss
  rw [sel_nil c (Nat.le_refl n)]
  rfl
theorem put_end (hn : n < 100) (t x : Int) : put ⟨[], [(n : Int)], []⟩ ⟨t, 0, n, false, true, true, [x]⟩ = (⟨[], [((n + 1 : Nat) : Int)], [⟨0, true, [x]⟩]⟩, 0) := by
  have h3 : (!(⟨t, 0, n, false, true, true, [x]⟩ : Pc).un && less16 (⟨t, 0, n, false, true, true, [x]⟩ : Pc).ssn (nextOf ⟨[], [(n : Int)], []⟩ (⟨t, 0, n, false, true, true, [x]⟩ : Pc).stream)) = false := by
    show (!false && less16 (n : Int) (n : Int)) = false
    unfold less16
    simp
  have h1 : ¬ (⟨[], [(n : Int)], []⟩ : St).next.length ≤ (⟨t, 0, n, false, true, true, [x]⟩ : Pc).stream.toNat := show ¬ 1 ≤ (0 : Int).toNat by decide
  have h2 : ¬ (⟨t, 0, n, false, true, true, [x]⟩ : Pc).bytes.length = 0 := show ¬ [x].length = 0 by simp
  rw [put_ord h1 h2 h3 rfl rfl]
  · show (onAll ⟨[⟨t, 0, n, false, true, true, [x]⟩], [(n : Int)], []⟩ 0, (0 : Int)) = _
    have hw : waiting ⟨[⟨t, 0, n, false, true, true, [x]⟩], [(n : Int)], []⟩ 0 = some ⟨[], [(n : Int)], [⟨0, true, [x]⟩]⟩ := by
      unfold waiting ordered
      have hf : fits ⟨t, 0, n, false, true, true, [x]⟩ 0 (nextOf ⟨[⟨t, 0, n, false, true, true, [x]⟩], [(n : Int)], []⟩ 0) = true := by simp [fits, nextOf]
      simp only [List.findSome?_cons]
      rw [if_pos hf, whole_lone (by simp) rfl rfl]
      show some (ready _ _) = _
      simp [ready, without, msgOf]
    unfold onAll
    show (on 0 (1 + 1) _, (0 : Int)) = _
    unfold on
    rw [hw]
    dsimp only
    rw [bump_ss hn]
    unfold on
    have hw2 : waiting ⟨[], [((n + 1 : Nat) : Int)], [⟨0, true, [x]⟩]⟩ 0 = none := rfl
    rw [hw2]
end
end Go.Proofs.Ytpkbckkminmdmaa.Rs
