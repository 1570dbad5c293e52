/- Plain laws: readying keeps what is held; numbers that are skipped. -/
import Derived.Test.YtpkbckkminmdmaaRsPure3
namespace Go.Proofs.Ytpkbckkminmdmaa.Rs

theorem without_cons (L l : List Pc) (x : Pc) : without L (x :: l) = without (L.filter fun y => y.tsn != x.tsn) l := by
  unfold without
  rw [List.filter_filter]
  refine List.filter_congr (fun y _ => ?_)
  rw [List.any_cons, Bool.not_or, Bool.and_comm]
  congr 1
  rw [bne]
  congr 1
  by_cases h : y.tsn = x.tsn
  · rw [h]
  · rw [beq_eq_false_iff_ne.2 h, beq_eq_false_iff_ne.2 (fun e => h e.symm)]
theorem bytesOf_without : ∀ (l L : List Pc), (L.map (·.tsn)).Nodup → (l.map (·.tsn)).Nodup → (∀ x ∈ l, x ∈ L) → bytesOf (without L l) = bytesOf L - bytesOf l
  | [], L, _, _, _ => by
    have : without L [] = L := by simp [without]
    rw [this]
    simp [bytesOf]
  | x :: l, L, hn, hl, hs => by
    have hl' := List.nodup_cons.1 (show (x.tsn :: l.map (·.tsn)).Nodup from hl)
    rw [without_cons, bytesOf_without l _ ((List.filter_sublist.map _).nodup hn) hl'.2, bytesOf_drop hn (hs x (by simp)), bytesOf_cons]
    · omega
    · intro y hy
      refine List.mem_filter.2 ⟨hs y (by simp [hy]), ?_⟩
      have : y.tsn ≠ x.tsn := fun e => hl'.1 (e ▸ List.mem_map_of_mem hy)
      simpa using this
theorem bytesOf_flat (l : List Pc) : ((l.flatMap (·.bytes)).length : Int) = bytesOf l := by
  induction l with
  | nil => rfl
  | cons p l ih =>
    rw [List.flatMap_cons, List.length_append, bytesOf_cons, ← ih]
    omega
theorem held_ready {s : St} {l : List Pc} (hn : (s.L.map (·.tsn)).Nodup) (hl : (l.map (·.tsn)).Nodup) (hs : ∀ x ∈ l, x ∈ s.L) : held (ready s l) = held s := by
  rw [held_eq, held_eq]
  unfold ready
  simp only
  rw [bytesOf_without l s.L hn hl hs, bytesOfM_append]
  have : bytesOfM [msgOf l] = bytesOf l := by
    rw [← bytesOf_flat]
    simp [bytesOfM, msgOf]
  rw [this]
  omega
/-- What a list of pieces must be. -/
structure Fine (L : List Pc) : Prop where
  keys : (L.map (·.tsn)).Nodup
  rng : ∀ x ∈ L, 0 ≤ x.tsn ∧ x.tsn < 4294967296
  len : L.length < 1000000
theorem Fine.sub {L L' : List Pc} (h : Fine L) (hs : L'.Sublist L) : Fine L' := ⟨(hs.map _).nodup h.keys, fun x hx => h.rng x (hs.mem hx), Nat.lt_of_le_of_lt hs.length_le h.len⟩
theorem nodup_of_run {l : List Pc} {f : Int} (hlen : l.length < 1000000) (h : ∀ i (h : i < l.length), l[i].tsn = (f + i) % 4294967296) : (l.map (·.tsn)).Nodup := by
  rw [List.Nodup, List.pairwise_iff_getElem]
  intro i j hi hj hij
  rw [List.length_map] at hi hj
  rw [List.getElem_map, List.getElem_map, h i hi, h j hj]
  omega
theorem whole_run {L l : List Pc} {d : Pc} (h : Fine L) (hd : d ∈ L) (hw : whole L d = some l) : (∀ x ∈ l, x ∈ L) ∧ (l.map (·.tsn)).Nodup ∧ 0 < l.length := by
  rcases whole_ends h.keys h.rng h.len hd with ⟨h1, _⟩ | ⟨l0, f, z, h1, _, h3, h4, h5, h6, _⟩
  · rw [hw] at h1; cases h1
  · rw [hw] at h1
    injection h1 with h1
    subst h1
    have := h.len
    exact ⟨h3, nodup_of_run (by omega) h6, h4⟩
theorem waiting_some {s s' : St} {stream : Int} (hw : waiting s stream = some s') : ∃ d l, d ∈ s.L ∧ fits d stream (nextOf s stream) = true ∧ whole s.L d = some l ∧ s' = ready s l := by
  unfold waiting ordered at hw
  obtain ⟨l, hl, rfl⟩ := Option.map_eq_some_iff.1 hw
  obtain ⟨d, hd, hdl⟩ := List.exists_of_findSome?_eq_some hl
  by_cases hf : fits d stream (nextOf s stream) = true
  · rw [if_pos hf] at hdl
    exact ⟨d, l, hd, hf, hdl, rfl⟩
  · rw [if_neg hf] at hdl
    cases hdl
theorem waiting_held {s s' : St} {stream : Int} (h : Fine s.L) (hw : waiting s stream = some s') : held s' = held s := by
  obtain ⟨d, l, hd, _, hl, rfl⟩ := waiting_some hw
  obtain ⟨h1, h2, _⟩ := whole_run h hd hl
  exact held_ready h.keys h2 h1
theorem ready_sub (s : St) (l : List Pc) : (ready s l).L.Sublist s.L := List.filter_sublist
theorem waiting_sub {s s' : St} {stream : Int} (hw : waiting s stream = some s') : s'.L.Sublist s.L := by
  obtain ⟨d, l, _, _, _, rfl⟩ := waiting_some hw
  exact ready_sub s l
theorem waiting_next {s s' : St} {stream : Int} (hw : waiting s stream = some s') : s'.next = s.next := by
  obtain ⟨d, l, _, _, _, rfl⟩ := waiting_some hw
  rfl
theorem held_bump (s : St) (stream : Int) : held (bump s stream) = held s := rfl
theorem on_held : ∀ (n : Nat) (s : St) (stream : Int), Fine s.L → held (on stream n s) = held s
  | 0, _, _, _ => rfl
  | n + 1, s, stream, h => by
    unfold on
    cases hw : waiting s stream with
    | none => rfl
    | some s' =>
      show held (on stream n (bump s' stream)) = held s
      rw [on_held n _ _ (show Fine (bump s' stream).L from (show Fine s'.L from h.sub (waiting_sub hw))), held_bump, waiting_held h hw]
theorem onAll_held {s : St} {stream : Int} (h : Fine s.L) : held (onAll s stream) = held s := on_held _ _ _ h
theorem put_held {s : St} {d : Pc} (h : Fine (s.L ++ [d])) : held (put s d).1 = held s + (if (put s d).2 = 0 then (d.bytes.length : Int) else 0) := by
  have h0 : held { s with L := s.L ++ [d] } = held s + d.bytes.length := by
    rw [held_eq, held_eq]
    simp only [bytesOf_append]
    simp [bytesOf]
    omega
  unfold put
  split
  · simp
  · split
    · simp
    · split
      · simp
      · split
        · simp
        · simp only
          split
          · simp only [if_true]
            rw [onAll_held h, h0]
          · cases hw : whole (s.L ++ [d]) d with
            | none => simp only [if_true]; rw [h0]
            | some l =>
              obtain ⟨h1, h2, _⟩ := whole_run h (by simp) hw
              simp only [if_true]
              rw [held_ready h.keys h2 h1, h0]
/-- How far a stream's next is from where it shall come. -/
def way (s : St) (stream to : Int) : Nat := ((inc16 to - nextOf s stream) % 65536).toNat
theorem next_bump {s : St} {stream : Int} (h : stream.toNat < s.next.length) : nextOf (bump s stream) stream = inc16 (nextOf s stream) := by
  unfold bump
  show (s.next.set stream.toNat _).getD stream.toNat 0 = _
  simp [h]
theorem way_bump {s s' : St} {stream to : Int} (h : stream.toNat < s.next.length) (hn : s'.next = s.next) (h0 : 0 ≤ nextOf s stream) (h1 : nextOf s stream < 65536) (ht0 : 0 ≤ to) (ht1 : to < 65536) (hne : nextOf s stream ≠ inc16 to) :
    way (bump s' stream) stream to < way s stream to := by
  have e : nextOf s' stream = nextOf s stream := by unfold nextOf; rw [hn]
  unfold way
  rw [next_bump (by rw [hn]; exact h), e]
  unfold inc16 at *
  omega
theorem way_lt (s : St) (stream to : Int) : way s stream to < 65536 := by
  unfold way
  omega
end Go.Proofs.Ytpkbckkminmdmaa.Rs
