/- Plain laws on chains of pieces: no Go and no memory. -/
import Derived.Test.YtpkbckkminmdmaaRsSpec
namespace Go.Proofs.Ytpkbckkminmdmaa.Rs

theorem get_mem {L : List Pc} {t : Int} {x : Pc} (h : get L t = some x) : x ∈ L ∧ x.tsn = t := by
  refine ⟨List.mem_of_find?_eq_some h, ?_⟩
  have := List.find?_some h
  simpa using this
theorem get_of_mem {L : List Pc} (hn : (L.map (·.tsn)).Nodup) {x : Pc} (hx : x ∈ L) : get L x.tsn = some x := by
  induction L with
  | nil => cases hx
  | cons a l ih =>
    have hn' := List.nodup_cons.1 (show (a.tsn :: l.map (·.tsn)).Nodup from hn)
    rcases List.mem_cons.1 hx with rfl | hx
    · simp [get]
    · have hne : a.tsn ≠ x.tsn := fun e => hn'.1 (by rw [e]; exact List.mem_map_of_mem (f := (·.tsn)) hx)
      have : get (a :: l) x.tsn = get l x.tsn := by simp [get, hne]
      rw [this]
      exact ih hn'.2 hx

/-- So many different keys: so many elements. -/
theorem pigeon : ∀ (n : Nat) (f : Nat → Int) (l : List Int), (∀ i j, i < n → j < n → f i = f j → i = j) → (∀ i, i < n → f i ∈ l) → n ≤ l.length
  | 0, _, _, _, _ => Nat.zero_le _
  | n + 1, f, l, hinj, hmem => by
    have hm := hmem n (by omega)
    have h := pigeon n f (l.erase (f n)) (fun i j hi hj => hinj i j (by omega) (by omega)) (fun i hi => by
      have hne : f i ≠ f n := fun e => by have := hinj i n (by omega) (by omega) e; omega
      exact (List.mem_erase_of_ne hne).2 (hmem i (by omega)))
    rw [List.length_erase_of_mem hm] at h
    have : 0 < l.length := List.length_pos_of_mem hm
    omega
def downTo (L : List Pc) (t : Int) (k : Nat) : Prop := ∀ j, j ≤ k → (get L ((t - j) % 4294967296)).isSome = true
def upTo (L : List Pc) (t : Int) (k : Nat) : Prop := ∀ j, j ≤ k → (get L ((t + j) % 4294967296)).isSome = true
theorem down_len {L : List Pc} {t : Int} {k : Nat} (h : downTo L t k) (hk : k < 4294967296) : k + 1 ≤ L.length := by
  have := pigeon (k + 1) (fun j => (t - j) % 4294967296) (L.map (·.tsn)) (fun i j hi hj e => by omega) (fun i hi => by
    have := h i (by omega)
    obtain ⟨x, hx⟩ := Option.isSome_iff_exists.1 this
    obtain ⟨hm, ht⟩ := get_mem hx
    show (t - i) % 4294967296 ∈ _
    rw [← ht]
    exact List.mem_map_of_mem (f := (·.tsn)) hm)
  simpa using this
theorem up_len {L : List Pc} {t : Int} {k : Nat} (h : upTo L t k) (hk : k < 4294967296) : k + 1 ≤ L.length := by
  have := pigeon (k + 1) (fun j => (t + j) % 4294967296) (L.map (·.tsn)) (fun i j hi hj e => by omega) (fun i hi => by
    have := h i (by omega)
    obtain ⟨x, hx⟩ := Option.isSome_iff_exists.1 this
    obtain ⟨hm, ht⟩ := get_mem hx
    show (t + i) % 4294967296 ∈ _
    rw [← ht]
    exact List.mem_map_of_mem (f := (·.tsn)) hm)
  simpa using this
theorem down_step {L : List Pc} {t : Int} {k : Nat} (h : downTo L t k) (hs : (get L (dec ((t - k) % 4294967296))).isSome = true) : downTo L t (k + 1) := by
  intro j hj
  rcases Nat.lt_or_ge j (k + 1) with h1 | h1
  · exact h j (by omega)
  · have : j = k + 1 := by omega
    subst this
    have e : dec ((t - k) % 4294967296) = (t - ((k + 1 : Nat) : Int)) % 4294967296 := by unfold dec; omega
    rw [← e]
    exact hs
theorem up_step {L : List Pc} {t : Int} {k : Nat} (h : upTo L t k) (hs : (get L (inc ((t + k) % 4294967296))).isSome = true) : upTo L t (k + 1) := by
  intro j hj
  rcases Nat.lt_or_ge j (k + 1) with h1 | h1
  · exact h j (by omega)
  · have : j = k + 1 := by omega
    subst this
    have e : inc ((t + k) % 4294967296) = (t + ((k + 1 : Nat) : Int)) % 4294967296 := by unfold inc; omega
    rw [← e]
    exact hs

/-- The last piece, from q on. -/
def lastOf (L : List Pc) (d : Pc) : Nat → Pc → Option Pc
  | 0, _ => none
  | n + 1, q => if q.la then some q else
    match get L (inc q.tsn) with
    | none => none
    | some x => if mates x d && !x.fi then lastOf L d n x else none
def ends (L : List Pc) (p : Pc) : Int × Int × Bool :=
  match back L p L.length p, lastOf L p L.length p with
  | some f, some l => (f.tsn, l.tsn, true)
  | _, _ => (0, 0, false)

/-- Where the walk back stands: k steps behind t, n steps of fuel left. -/
structure AtBack (L : List Pc) (d : Pc) (q : Pc) (n k : Nat) : Prop where
  mem : q ∈ L
  tsn : q.tsn = (d.tsn - k) % 4294967296
  all : downTo L d.tsn k
  fuel : n + k = L.length
  same : back L d n q = back L d L.length d
structure AtFwd (L : List Pc) (d : Pc) (q : Pc) (n k : Nat) : Prop where
  mem : q ∈ L
  tsn : q.tsn = (d.tsn + k) % 4294967296
  all : upTo L d.tsn k
  fuel : n + k = L.length
  same : lastOf L d n q = lastOf L d L.length d
section
variable {L : List Pc} {d q x : Pc} {n k : Nat}
theorem AtBack.start (hn : (L.map (·.tsn)).Nodup) (hd : d ∈ L) (h0 : 0 ≤ d.tsn) (h1 : d.tsn < 4294967296) : AtBack L d d L.length 0 :=
  ⟨hd, by omega, fun j hj => by
    have : j = 0 := by omega
    subst this
    have e : (d.tsn - ((0 : Nat) : Int)) % 4294967296 = d.tsn := by omega
    rw [e, get_of_mem hn hd]
    rfl, rfl, rfl⟩
theorem AtBack.pos (h : AtBack L d q n k) (hl : L.length < 4294967296) : 0 < n := by
  have h1 := h.fuel
  have := down_len h.all (by omega)
  omega
theorem AtBack.stop (h : AtBack L d q n k) (hl : L.length < 4294967296) (hf : q.fi = true) : back L d L.length d = some q := by
  rw [← h.same]
  obtain ⟨m, rfl⟩ : ∃ m, n = m + 1 := ⟨n - 1, by have := h.pos hl; omega⟩
  simp [back, hf]
theorem AtBack.miss (h : AtBack L d q n k) (hl : L.length < 4294967296) (hf : q.fi = false) (hg : get L (dec q.tsn) = none) : back L d L.length d = none := by
  rw [← h.same]
  obtain ⟨m, rfl⟩ : ∃ m, n = m + 1 := ⟨n - 1, by have := h.pos hl; omega⟩
  simp [back, hf, hg]
theorem AtBack.bad (h : AtBack L d q n k) (hl : L.length < 4294967296) (hf : q.fi = false) (hg : get L (dec q.tsn) = some x) (hx : (mates x d && !x.la) = false) : back L d L.length d = none := by
  rw [← h.same]
  obtain ⟨m, rfl⟩ : ∃ m, n = m + 1 := ⟨n - 1, by have := h.pos hl; omega⟩
  simp only [back, hf, hg, hx]
  rfl
theorem AtBack.step (h : AtBack L d q n k) (hl : L.length < 4294967296) (hf : q.fi = false) (hg : get L (dec q.tsn) = some x) (hx : (mates x d && !x.la) = true) : AtBack L d x (n - 1) (k + 1) := by
  have h0 := h.pos hl
  obtain ⟨hm, ht⟩ := get_mem hg
  refine ⟨hm, ?_, down_step h.all (by rw [← h.tsn, hg]; rfl), by have := h.fuel; omega, ?_⟩
  · rw [ht, h.tsn]
    unfold dec
    omega
  · rw [← h.same]
    obtain ⟨m, rfl⟩ : ∃ m, n = m + 1 := ⟨n - 1, by omega⟩
    simp only [back, hf, hg, hx, Nat.add_sub_cancel]
    rfl
theorem AtFwd.start (hn : (L.map (·.tsn)).Nodup) (hd : d ∈ L) (h0 : 0 ≤ d.tsn) (h1 : d.tsn < 4294967296) : AtFwd L d d L.length 0 :=
  ⟨hd, by omega, fun j hj => by
    have : j = 0 := by omega
    subst this
    have e : (d.tsn + ((0 : Nat) : Int)) % 4294967296 = d.tsn := by omega
    rw [e, get_of_mem hn hd]
    rfl, rfl, rfl⟩
theorem AtFwd.pos (h : AtFwd L d q n k) (hl : L.length < 4294967296) : 0 < n := by
  have h1 := h.fuel
  have := up_len h.all (by omega)
  omega
theorem AtFwd.stop (h : AtFwd L d q n k) (hl : L.length < 4294967296) (hf : q.la = true) : lastOf L d L.length d = some q := by
  rw [← h.same]
  obtain ⟨m, rfl⟩ : ∃ m, n = m + 1 := ⟨n - 1, by have := h.pos hl; omega⟩
  simp [lastOf, hf]
theorem AtFwd.miss (h : AtFwd L d q n k) (hl : L.length < 4294967296) (hf : q.la = false) (hg : get L (inc q.tsn) = none) : lastOf L d L.length d = none := by
  rw [← h.same]
  obtain ⟨m, rfl⟩ : ∃ m, n = m + 1 := ⟨n - 1, by have := h.pos hl; omega⟩
  simp [lastOf, hf, hg]
theorem AtFwd.bad (h : AtFwd L d q n k) (hl : L.length < 4294967296) (hf : q.la = false) (hg : get L (inc q.tsn) = some x) (hx : (mates x d && !x.fi) = false) : lastOf L d L.length d = none := by
  rw [← h.same]
  obtain ⟨m, rfl⟩ : ∃ m, n = m + 1 := ⟨n - 1, by have := h.pos hl; omega⟩
  simp only [lastOf, hf, hg, hx]
  rfl
theorem AtFwd.step (h : AtFwd L d q n k) (hl : L.length < 4294967296) (hf : q.la = false) (hg : get L (inc q.tsn) = some x) (hx : (mates x d && !x.fi) = true) : AtFwd L d x (n - 1) (k + 1) := by
  have h0 := h.pos hl
  obtain ⟨hm, ht⟩ := get_mem hg
  refine ⟨hm, ?_, up_step h.all (by rw [← h.tsn, hg]; rfl), by have := h.fuel; omega, ?_⟩
  · rw [ht, h.tsn]
    unfold inc
    omega
  · rw [← h.same]
    obtain ⟨m, rfl⟩ : ∃ m, n = m + 1 := ⟨n - 1, by omega⟩
    simp only [lastOf, hf, hg, hx, Nat.add_sub_cancel]
    rfl
end
end Go.Proofs.Ytpkbckkminmdmaa.Rs
