/- The meaning of package spans as plain functions on lists; plain laws on them: no Go and no memory. -/
namespace Go.Proofs.Ytpkbckkminmdmaa.Sp

/-- A base, and how far beyond it the numbers are that are in, rising. -/
structure St where
  base : Int
  ds : List Nat
def M32 : Int := 4294967296
def key (b : Int) (d : Nat) : Int := (b + d) % 4294967296
def dist (b x : Int) : Nat := ((x - b) % 4294967296).toNat
def may (b x : Int) : Bool := decide (1 ≤ dist b x) && decide (dist b x ≤ 4096)
def has (s : St) (x : Int) : Bool := decide (dist s.base x ∈ s.ds)
def ins (d : Nat) : List Nat → List Nat
  | [] => [d]
  | e :: r => if d < e then d :: e :: r else if d = e then e :: r else e :: ins d r
def add (s : St) (x : Int) : St × Bool := if may s.base x && !has s x then (⟨s.base, ins (dist s.base x) s.ds⟩, true) else (s, false)
def last (s : St) : Int := key s.base (s.ds.getLastD 0)
def step (s : St) : St := ⟨(s.base + 1) % 4294967296, (s.ds.filter fun d => d != 1).map (· - 1)⟩
/-- How many of a rising list follow k one behind the other. -/
def lead (k : Nat) : List Nat → Nat
  | [] => 0
  | d :: r => if d = k + 1 then lead (k + 1) r + 1 else 0
def settle (s : St) : St × Nat := (⟨key s.base (lead 0 s.ds), (s.ds.drop (lead 0 s.ds)).map (· - lead 0 s.ds)⟩, lead 0 s.ds)
def movedTo (s : St) (k : Nat) : St := ⟨key s.base k, (s.ds.filter fun d => decide (k < d)).map (· - k)⟩
def move (s : St) (x : Int) : St × Nat :=
  if may s.base x then ((settle (movedTo s (dist s.base x))).1, dist s.base x + (settle (movedTo s (dist s.base x))).2) else (s, 0)
/-- The runs of a rising list. -/
def runsGo (a b : Nat) : List Nat → List (Nat × Nat)
  | [] => [(a, b)]
  | d :: r => if d = b + 1 then runsGo a d r else (a, b) :: runsGo d d r
def runs : List Nat → List (Nat × Nat)
  | [] => []
  | d :: r => runsGo d d r
def gaps (s : St) (most : Int) : List (Nat × Nat) := (runs s.ds).take most.toNat

structure St.Ok (s : St) : Prop where
  base : 0 ≤ s.base ∧ s.base < 4294967296
  asc : s.ds.Pairwise (· < ·)
  rng : ∀ d ∈ s.ds, 1 ≤ d ∧ d ≤ 4096

theorem dist_lt (b x : Int) : (dist b x : Int) < 4294967296 := by unfold dist; omega
theorem key_dist {b x : Int} (hx : 0 ≤ x ∧ x < 4294967296) : key b (dist b x) = x := by unfold key dist; omega
theorem dist_key {b : Int} {d : Nat} (hd : d < 4294967296) : dist b (key b d) = d := by unfold key dist; omega
theorem key_rng (b : Int) (d : Nat) : 0 ≤ key b d ∧ key b d < 4294967296 := by unfold key; omega
theorem key_inj {b : Int} {d e : Nat} (hd : d < 4294967296) (he : e < 4294967296) (h : key b d = key b e) : d = e := by
  rw [← dist_key (b := b) hd, h, dist_key he]
theorem key_key (b : Int) (n d : Nat) : key (key b n) d = key b (n + d) := by unfold key; omega
theorem key_zero {b : Int} (h : 0 ≤ b ∧ b < 4294967296) : key b 0 = b := by unfold key; omega
theorem key_base (b : Int) (k d : Nat) (h : k ≤ d) : key (key b k) (d - k) = key b d := by unfold key; omega

theorem mem_ins {d x : Nat} : ∀ {l : List Nat}, x ∈ ins d l ↔ x = d ∨ x ∈ l
  | [] => by simp [ins]
  | e :: r => by
    unfold ins
    split
    · simp
    · split
      · rename_i h; subst h; simp
      · rw [List.mem_cons, mem_ins, List.mem_cons]
        constructor
        · rintro (h | h | h)
          · exact .inr (.inl h)
          · exact .inl h
          · exact .inr (.inr h)
        · rintro (h | h | h)
          · exact .inr (.inl h)
          · exact .inl h
          · exact .inr (.inr h)
theorem ins_asc {d : Nat} : ∀ {l : List Nat}, l.Pairwise (· < ·) → (ins d l).Pairwise (· < ·)
  | [], _ => by simp [ins]
  | e :: r, h => by
    have h' := List.pairwise_cons.1 h
    unfold ins
    split
    · rename_i hd
      refine List.pairwise_cons.2 ⟨fun x hx => ?_, h⟩
      rcases List.mem_cons.1 hx with rfl | hx
      · exact hd
      · have := h'.1 x hx; omega
    · split
      · exact h
      · refine List.pairwise_cons.2 ⟨fun x hx => ?_, ins_asc h'.2⟩
        rcases mem_ins.1 hx with rfl | hx
        · omega
        · exact h'.1 x hx
theorem ins_perm {d : Nat} : ∀ {l : List Nat}, d ∉ l → (ins d l).Perm (l ++ [d])
  | [], _ => by simp [ins]
  | e :: r, h => by
    have h1 : d ≠ e := fun x => h (by simp [x])
    have h2 : d ∉ r := fun x => h (by simp [x])
    unfold ins
    split
    · exact (List.perm_append_comm (l₁ := [d]) (l₂ := e :: r))
    · first | (rw [if_neg h1]; exact (ins_perm h2).cons e) | exact (ins_perm h2).cons e
/-- Rising lists of the same members are one. -/
theorem asc_ext : ∀ {a b : List Nat}, a.Pairwise (· < ·) → b.Pairwise (· < ·) → (∀ x, x ∈ a ↔ x ∈ b) → a = b
  | [], [], _, _, _ => rfl
  | [], y :: b, _, _, h => by have := (h y).2 (by simp); simp at this
  | x :: a, [], _, _, h => by have := (h x).1 (by simp); simp at this
  | x :: a, y :: b, ha, hb, h => by
    have ha' := List.pairwise_cons.1 ha
    have hb' := List.pairwise_cons.1 hb
    have hxy : x = y := by
      rcases List.mem_cons.1 ((h x).1 (by simp)) with e | e
      · exact e
      · rcases List.mem_cons.1 ((h y).2 (by simp)) with e' | e'
        · exact e'.symm
        · have := hb'.1 x e; have := ha'.1 y e'; omega
    subst hxy
    congr 1
    refine asc_ext ha'.2 hb'.2 (fun z => ⟨fun hz => ?_, fun hz => ?_⟩)
    · rcases List.mem_cons.1 ((h z).1 (by simp [hz])) with e | e
      · subst e; have := ha'.1 z hz; omega
      · exact e
    · rcases List.mem_cons.1 ((h z).2 (by simp [hz])) with e | e
      · subst e; have := hb'.1 z hz; omega
      · exact e
theorem asc_perm {a b : List Nat} (ha : a.Pairwise (· < ·)) (hb : b.Pairwise (· < ·)) (h : a.Perm b) : a = b := asc_ext ha hb fun _ => h.mem_iff
theorem asc_nodup {a : List Nat} (ha : a.Pairwise (· < ·)) : a.Nodup := ha.imp (fun h => Nat.ne_of_lt h)
theorem asc_last : ∀ {l : List Nat}, l.Pairwise (· < ·) → ∀ x ∈ l, x ≤ l.getLastD 0
  | [], _, x, hx => by simp at hx
  | [y], _, x, hx => by simp at hx; simp [hx]
  | y :: z :: r, h, x, hx => by
    have h' := List.pairwise_cons.1 h
    have ih := asc_last h'.2
    show x ≤ (z :: r).getLastD y
    rw [show (z :: r).getLastD y = (z :: r).getLastD 0 by rw [List.getLastD_cons, List.getLastD_cons]]
    rcases List.mem_cons.1 hx with rfl | hx
    · have := ih z (by simp); have := h'.1 z (by simp); omega
    · exact ih x hx
theorem asc_len : ∀ {l : List Nat} (k : Nat), l.Pairwise (· < ·) → (∀ d ∈ l, k < d ∧ d ≤ 4096) → l.length + k ≤ 4096 ∨ l = []
  | [], _, _, _ => .inr rfl
  | d :: r, k, h, hr => by
    have h' := List.pairwise_cons.1 h
    have h0 := hr d (by simp)
    rcases asc_len d h'.2 (fun x hx => ⟨h'.1 x hx, (hr x (by simp [hx])).2⟩) with e | e
    · left; simp; omega
    · subst e; left; simp; omega
theorem St.Ok.len {s : St} (h : s.Ok) : s.ds.length ≤ 4096 := by
  rcases asc_len 0 h.asc (fun d hd => by have := h.rng d hd; omega) with e | e
  · omega
  · simp [e]

/-! ### settle -/
theorem lead_le : ∀ (k : Nat) (l : List Nat), lead k l ≤ l.length
  | _, [] => by simp [lead]
  | k, d :: r => by unfold lead; split <;> simp; have := lead_le (k + 1) r; omega
theorem lead_get : ∀ (l : List Nat) (k i : Nat), i < lead k l → l[i]? = some (k + 1 + i)
  | [], _, _, h => by simp [lead] at h
  | d :: r, k, 0, h => by
    unfold lead at h
    split at h
    · rename_i e; simp [e]
    · omega
  | d :: r, k, i + 1, h => by
    unfold lead at h
    split at h
    · rw [List.getElem?_cons_succ, lead_get r (k + 1) i (by omega)]
      congr 1; omega
    · omega
theorem lead_stop : ∀ (l : List Nat) (k : Nat), l.Pairwise (· < ·) → (∀ d ∈ l, k < d) → k + 1 + lead k l ∉ l
  | [], _, _, _ => by simp
  | d :: r, k, h, hk => by
    have h' := List.pairwise_cons.1 h
    have h0 := hk d (by simp)
    unfold lead
    split
    · rename_i e
      rw [List.mem_cons, not_or]
      have := lead_stop r (k + 1) h'.2 (fun x hx => by have := h'.1 x hx; omega)
      exact ⟨by omega, by rwa [show k + 1 + (lead (k + 1) r + 1) = k + 1 + 1 + lead (k + 1) r by omega]⟩
    · rw [List.mem_cons, not_or]
      refine ⟨by omega, fun hx => ?_⟩
      have := h'.1 _ hx
      omega
theorem lead_drop : ∀ (l : List Nat) (k : Nat), l.Pairwise (· < ·) → (∀ d ∈ l, k < d) → l.drop (lead k l) = l.filter fun d => decide (k + lead k l < d)
  | [], _, _, _ => by simp
  | d :: r, k, h, hk => by
    have h' := List.pairwise_cons.1 h
    have h0 := hk d (by simp)
    unfold lead
    split
    · rename_i e
      rw [List.drop_succ_cons, lead_drop r (k + 1) h'.2 (fun x hx => by have := h'.1 x hx; omega), List.filter_cons, if_neg (by simp; omega)]
      refine List.filter_congr fun x _ => ?_
      rw [show k + 1 + lead (k + 1) r = k + (lead (k + 1) r + 1) by omega]
    · rw [List.drop_zero, Nat.add_zero, List.filter_eq_self.2]
      intro x hx
      exact decide_eq_true (hk x hx)
theorem map_sub_asc {k : Nat} : ∀ {l : List Nat}, l.Pairwise (· < ·) → (∀ d ∈ l, k < d) → (l.map (· - k)).Pairwise (· < ·) := fun {l} h hk => by
  rw [List.pairwise_map]
  refine h.imp_of_mem fun {a b} ha hb hab => ?_
  have := hk a ha; have := hk b hb; omega
theorem St.Ok.moved {s : St} (h : s.Ok) (k : Nat) : (movedTo s k).Ok := by
  refine ⟨key_rng _ _, ?_, ?_⟩
  · exact map_sub_asc (h.asc.sublist List.filter_sublist) (fun d hd => by simpa using (List.mem_filter.1 hd).2)
  · intro d hd
    obtain ⟨e, he, rfl⟩ := List.mem_map.1 hd
    obtain ⟨h1, h2⟩ := List.mem_filter.1 he
    have := h.rng e h1
    have : k < e := by simpa using h2
    omega
theorem settle_eq {s : St} (h : s.Ok) : settle s = (movedTo s (lead 0 s.ds), lead 0 s.ds) := by
  unfold settle movedTo
  rw [lead_drop s.ds 0 h.asc (fun d hd => by have := h.rng d hd; omega), Nat.zero_add]
theorem St.Ok.settle {s : St} (h : s.Ok) : (settle s).1.Ok := by rw [settle_eq h]; exact h.moved _
theorem step_eq {s : St} (h : s.Ok) : step s = movedTo s 1 := by
  unfold step movedTo key
  congr 2
  refine List.filter_congr fun d hd => ?_
  have := h.rng d hd
  by_cases e : d = 1
  · subst e; rfl
  · rw [show decide (1 < d) = true from decide_eq_true (by omega)]; simpa using e
theorem moved_moved {s : St} (a b : Nat) : movedTo (movedTo s a) b = movedTo s (a + b) := by
  unfold movedTo
  rw [key_key]
  congr 1
  rw [List.filter_map, List.map_map]
  have : (s.ds.filter fun d => decide (a < d)).filter ((fun d => decide (b < d)) ∘ fun x => x - a) = s.ds.filter fun d => decide (a + b < d) := by
    rw [List.filter_filter]
    refine List.filter_congr fun d _ => ?_
    rw [Bool.eq_iff_iff]
    simp
    omega
  rw [this]
  refine List.map_congr_left fun d _ => ?_
  show d - a - b = d - (a + b)
  omega
theorem moved_zero {s : St} (h : s.Ok) : movedTo s 0 = s := by
  unfold movedTo
  rw [key_zero h.base, List.filter_eq_self.2 (fun d hd => by have := h.rng d hd; exact decide_eq_true (by omega))]
  simp
theorem lead_sub {j : Nat} : ∀ (r : List Nat) (k : Nat), (∀ d ∈ r, j ≤ d) → lead (k + j) r = lead k (r.map (· - j))
  | [], _, _ => rfl
  | d :: r, k, h => by
    have h0 := h d (by simp)
    have ih := lead_sub r (k + 1) (fun x hx => h x (by simp [hx]))
    simp only [lead, List.map_cons]
    by_cases e : d = k + j + 1
    · rw [if_pos e, if_pos (by omega), ← ih, show k + j + 1 = k + 1 + j by omega]
    · rw [if_neg e, if_neg (by omega)]
/-- What follows the base is in: one step, and settled on. -/
theorem settle_step {s : St} (h : s.Ok) (h1 : 1 ∈ s.ds) : settle s = ((settle (step s)).1, (settle (step s)).2 + 1) := by
  have hs : (step s).Ok := by rw [step_eq h]; exact h.moved 1
  rw [settle_eq h, settle_eq hs]
  have hl : lead 0 s.ds = lead 0 (step s).ds + 1 := by
    cases hd : s.ds with
    | nil => rw [hd] at h1; simp at h1
    | cons d r =>
      have hr := h.rng
      have ha := h.asc
      rw [hd] at h1 hr ha
      have ha' := List.pairwise_cons.1 ha
      have e : d = 1 := by
        rcases List.mem_cons.1 h1 with e | e
        · exact e.symm
        · have := ha'.1 1 e; have := (hr d (by simp)).1; omega
      subst e
      have e2 : (step s).ds = r.map (· - 1) := by
        unfold step
        rw [hd]
        simp only [List.filter_cons, bne_self_eq_false, Bool.false_eq_true, if_false]
        rw [List.filter_eq_self.2]
        intro x hx
        have := ha'.1 x hx
        simp
        omega
      rw [e2]
      show (if 1 = 0 + 1 then lead (0 + 1) r + 1 else 0) = _
      rw [if_pos rfl, lead_sub r 0 (fun x hx => by have := ha'.1 x hx; omega)]
  rw [hl, step_eq h, moved_moved, ← step_eq h, Nat.add_comm 1]
theorem settle_stop {s : St} (h : s.Ok) (h1 : 1 ∉ s.ds) : settle s = (s, 0) := by
  have hl : lead 0 s.ds = 0 := by
    cases hd : s.ds with
    | nil => rfl
    | cons d r =>
      rw [hd] at h1
      show (if d = 0 + 1 then lead (0 + 1) r + 1 else 0) = 0
      rw [if_neg (fun e => h1 (by simp [e]))]
  rw [settle_eq h, hl, moved_zero h]
theorem has_next {s : St} : has s ((s.base + 1) % 4294967296) = decide (1 ∈ s.ds) := by
  have : dist s.base ((s.base + 1) % 4294967296) = 1 := by unfold dist; omega
  unfold has
  rw [this]
/-- One step less to go. -/
theorem moved_step {s : St} (h : s.Ok) (k : Nat) : movedTo s (k + 1) = movedTo (step s) k := by rw [step_eq h, moved_moved, Nat.add_comm]
theorem has_may {s : St} (h : s.Ok) {x : Int} (hh : has s x = true) : may s.base x = true := by
  have := h.rng _ (of_decide_eq_true hh)
  unfold may
  rw [decide_eq_true this.1, decide_eq_true this.2]
  rfl
theorem St.Ok.add {s : St} (h : s.Ok) (x : Int) : (add s x).1.Ok := by
  unfold Sp.add
  split
  · rename_i hc
    have hm : may s.base x = true := by
      cases hm : may s.base x
      · rw [hm] at hc; cases hc
      · rfl
    unfold may at hm
    rw [Bool.and_eq_true] at hm
    refine ⟨h.base, ins_asc h.asc, fun d hd => ?_⟩
    rcases mem_ins.1 hd with rfl | hd
    · exact ⟨of_decide_eq_true hm.1, of_decide_eq_true hm.2⟩
    · exact h.rng d hd
  · exact h
theorem St.Ok.move {s : St} (h : s.Ok) (x : Int) : (move s x).1.Ok := by
  unfold Sp.move
  split
  · exact (h.moved _).settle
  · exact h
theorem St.Ok.step {s : St} (h : s.Ok) : (step s).Ok := by rw [step_eq h]; exact h.moved 1

/-! ### runs -/
theorem runsGo_snoc : ∀ (r : List Nat) (a b d : Nat), ∃ i p q, runsGo a b r = i ++ [(p, q)] ∧ runsGo a b (r ++ [d]) = (if d = q + 1 then i ++ [(p, d)] else i ++ [(p, q), (d, d)])
  | [], a, b, d => ⟨[], a, b, rfl, by
      rw [List.nil_append]
      unfold runsGo
      split <;> rfl⟩
  | e :: r, a, b, d => by
    rw [List.cons_append]
    unfold runsGo
    by_cases h : e = b + 1
    · rw [if_pos h, if_pos h]
      exact runsGo_snoc r a e d
    · rw [if_neg h, if_neg h]
      obtain ⟨i, p, q, h1, h2⟩ := runsGo_snoc r e e d
      refine ⟨(a, b) :: i, p, q, by rw [h1]; rfl, ?_⟩
      rw [h2]
      split <;> rfl
theorem runs_snoc {l : List Nat} {i : List (Nat × Nat)} {p q d : Nat} (h : runs l = i ++ [(p, q)]) : runs (l ++ [d]) = if d = q + 1 then i ++ [(p, d)] else i ++ [(p, q), (d, d)] := by
  cases l with
  | nil =>
    simp [runs] at h
  | cons e r =>
    obtain ⟨i', p', q', h1, h2⟩ := runsGo_snoc r e e d
    have h3 : i' ++ [(p', q')] = i ++ [(p, q)] := h1.symm.trans h
    obtain ⟨rfl, h4⟩ := List.append_inj' h3 rfl
    injection h4 with h4
    injection h4 with h5 h6
    subst h5 h6
    exact h2
theorem runs_one (d : Nat) : runs [d] = [(d, d)] := rfl
theorem runs_nil {l : List Nat} (h : runs l = []) : l = [] := by
  cases l with
  | nil => rfl
  | cons e r =>
    obtain ⟨i, p, q, h1, _⟩ := runsGo_snoc r e e 0
    have : runsGo e e r = [] := h
    rw [h1] at this
    simp at this
theorem runs_last {l : List Nat} (h : l ≠ []) : ∃ i p, runs l = i ++ [(p, l.getLastD 0)] := by
  rcases List.eq_nil_or_concat l with e | ⟨r, d, rfl⟩
  · exact absurd e h
  · rw [List.concat_eq_append, List.getLastD_concat]
    cases hr : runs r with
    | nil => rw [runs_nil hr]; exact ⟨[], d, rfl⟩
    | cons x y =>
      obtain ⟨i, z, hz⟩ : ∃ i z, runs r = i ++ [z] := by
        rcases List.eq_nil_or_concat (runs r) with e | ⟨i, z, e⟩
        · rw [e] at hr; cases hr
        · exact ⟨i, z, by rw [e, List.concat_eq_append]⟩
      obtain ⟨p, q⟩ := z
      rw [runs_snoc hz]
      split
      · exact ⟨i, p, rfl⟩
      · exact ⟨i ++ [(p, q)], d, by simp⟩
theorem runs_len_mono (l : List Nat) (d : Nat) : (runs l).length ≤ (runs (l ++ [d])).length := by
  rcases List.eq_nil_or_concat (runs l) with e | ⟨i, z, e⟩
  · rw [e]; simp
  · obtain ⟨p, q⟩ := z
    rw [List.concat_eq_append] at e
    rw [e, runs_snoc e]
    split <;> simp
/-- A list whose next one begins a new run: what comes behind leaves the runs ahead as they are. -/
theorem runs_fix {l : List Nat} {m : Nat} (hm : (runs l).length = m) : ∀ (r : List Nat), (∀ d, r.head? = some d → m < (runs (l ++ [d])).length) → (runs (l ++ r)).take m = runs l := by
  have key : ∀ (n : Nat) (r : List Nat), r.length = n → (∀ d, r.head? = some d → m < (runs (l ++ [d])).length) → (runs (l ++ r)).take m = runs l ∧ (r ≠ [] → m < (runs (l ++ r)).length) := by
    intro n
    induction n with
    | zero =>
      intro r hr _
      have : r = [] := List.length_eq_zero_iff.1 hr
      subst this
      exact ⟨by rw [List.append_nil, ← hm, List.take_length], fun h => absurd rfl h⟩
    | succ n ih =>
      intro r hr hh
      rcases List.eq_nil_or_concat r with e | ⟨r', d, e⟩
      · subst e; cases hr
      · rw [List.concat_eq_append] at e
        subst e
        have hr' : r'.length = n := by simpa using hr
        have hh' : ∀ d, r'.head? = some d → m < (runs (l ++ [d])).length := fun x hx => hh x (by
          cases r' with
          | nil => cases hx
          | cons a b => exact hx)
        obtain ⟨h1, h2⟩ := ih r' hr' hh'
        rw [← List.append_assoc]
        by_cases hn : r' = []
        · subst hn
          rw [List.append_nil]
          have h3 := hh d rfl
          refine ⟨?_, fun _ => h3⟩
          rcases List.eq_nil_or_concat (runs l) with e | ⟨i, z, e⟩
          · rw [e] at hm ⊢; simp at hm; subst hm; rfl
          · obtain ⟨p, q⟩ := z
            rw [List.concat_eq_append] at e
            rw [runs_snoc e] at h3 ⊢
            rw [e] at hm ⊢
            split at h3
            · simp at h3 hm; omega
            · rename_i hc
              rw [if_neg hc, ← hm, show i ++ [(p, q), (d, d)] = (i ++ [(p, q)]) ++ [(d, d)] by simp, List.take_left]
        · have h4 := h2 hn
          refine ⟨?_, fun _ => Nat.lt_of_lt_of_le h4 (runs_len_mono _ _)⟩
          rcases List.eq_nil_or_concat (runs (l ++ r')) with e | ⟨i, z, e⟩
          · rw [e] at h4; simp at h4
          · obtain ⟨p, q⟩ := z
            rw [List.concat_eq_append] at e
            rw [← h1, runs_snoc e, e]
            rw [e] at h4
            have : m ≤ i.length := by simp at h4; omega
            split
            · rw [List.take_append_of_le_length this, List.take_append_of_le_length this]
            · rw [List.take_append_of_le_length this, List.take_append_of_le_length this]
  intro r h
  exact (key r.length r rfl h).1
end Go.Proofs.Ytpkbckkminmdmaa.Sp
