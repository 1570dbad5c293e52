/- Plain laws: 'whole' of a piece and its two ends. -/
import Derived.Test.YtpkbckkminmdmaaRsPure1
namespace Go.Proofs.Ytpkbckkminmdmaa.Rs

section
variable {L : List Pc} {d : Pc}
theorem fwd_mono : ∀ (n n' : Nat) (q : Pc) (l : List Pc), fwd L d n q = some l → n ≤ n' → fwd L d n' q = some l
  | 0, _, _, _, h, _ => by simp [fwd] at h
  | n + 1, 0, _, _, _, h => by omega
  | n + 1, n' + 1, q, l, h, hn => by
    simp only [fwd] at h ⊢
    split
    · rename_i hl
      rwa [if_pos hl] at h
    · rename_i hl
      rw [if_neg hl] at h
      split
      · rename_i hg
        rw [hg] at h
        exact h
      · rename_i x hg
        rw [hg] at h
        dsimp only at h
        split
        · rename_i hm
          rw [if_pos hm] at h
          obtain ⟨l', hl', rfl⟩ := Option.map_eq_some_iff.1 h
          rw [fwd_mono n n' x l' hl' (by omega)]
          rfl
        · rename_i hm
          rw [if_neg hm] at h
          exact h
theorem fwd_spec : ∀ (n : Nat) (q : Pc) (l : List Pc), fwd L d n q = some l → l.length ≤ n ∧ fwd L d l.length q = some l ∧ (∃ l', l = q :: l') ∧ (q ∈ L → ∀ x ∈ l, x ∈ L) ∧ lastOf L d n q = l.getLast? ∧
    (∀ i (h : i < l.length), l[i].tsn % 4294967296 = (q.tsn + i) % 4294967296)
  | 0, _, _, h => by simp [fwd] at h
  | n + 1, q, l, h => by
    simp only [fwd] at h
    by_cases hl : q.la = true
    · rw [if_pos hl] at h
      injection h with h
      subst h
      refine ⟨by simp, by simp [fwd, hl], ⟨[], rfl⟩, by simp, by simp [lastOf, hl], ?_⟩
      intro i hi
      have : i = 0 := by simpa using hi
      subst this
      simp
    · rw [if_neg hl] at h
      cases hg : get L (inc q.tsn) with
      | none => rw [hg] at h; cases h
      | some x =>
        rw [hg] at h
        dsimp only at h
        by_cases hm : (mates x d && !x.fi) = true
        · rw [if_pos hm] at h
          obtain ⟨l', hl', rfl⟩ := Option.map_eq_some_iff.1 h
          obtain ⟨h1, h2, ⟨l2, h3⟩, h4, h5, h6⟩ := fwd_spec n x l' hl'
          have hgm := get_mem hg
          refine ⟨by simp; omega, ?_, ⟨l', rfl⟩, ?_, ?_, ?_⟩
          · simp only [List.length_cons, fwd]
            rw [if_neg hl, hg]
            dsimp only
            rw [if_pos hm, h2]
            rfl
          · intro hq y hy
            rcases List.mem_cons.1 hy with rfl | hy
            · exact hq
            · exact h4 hgm.1 y hy
          · simp only [lastOf]
            rw [if_neg hl, hg]
            dsimp only
            rw [if_pos hm, h5, h3]
            simp
          · intro i hi
            cases i with
            | zero => simp
            | succ i =>
              have := h6 i (by simpa using hi)
              simp only [List.getElem_cons_succ]
              rw [this, hgm.2]
              unfold inc
              omega
        · rw [if_neg hm] at h
          cases h
theorem lastOf_some : ∀ (n : Nat) (q z : Pc), lastOf L d n q = some z → ∃ l, fwd L d n q = some l
  | 0, _, _, h => by simp [lastOf] at h
  | n + 1, q, z, h => by
    simp only [lastOf] at h
    simp only [fwd]
    by_cases hl : q.la = true
    · exact ⟨[q], by rw [if_pos hl]⟩
    · rw [if_neg hl] at h ⊢
      cases hg : get L (inc q.tsn) with
      | none => rw [hg] at h; cases h
      | some x =>
        rw [hg] at h
        dsimp only at h ⊢
        by_cases hm : (mates x d && !x.fi) = true
        · rw [if_pos hm] at h ⊢
          obtain ⟨l, hl⟩ := lastOf_some n x z h
          exact ⟨q :: l, by rw [hl]; rfl⟩
        · rw [if_neg hm] at h
          cases h

/-- From f, k steps on, one comes to q. -/
inductive Path (L : List Pc) (d : Pc) : Nat → Pc → Pc → Prop
  | nil (q : Pc) : Path L d 0 q q
  | cons {k : Nat} {f x q : Pc} : f.la = false → get L (inc f.tsn) = some x → (mates x d && !x.fi) = true → f ∈ L → Path L d k x q → Path L d (k + 1) f q
theorem Path.snoc {k : Nat} {f q y : Pc} (h : Path L d k f q) (h1 : q.la = false) (h2 : get L (inc q.tsn) = some y) (h3 : (mates y d && !y.fi) = true) (h4 : q ∈ L) : Path L d (k + 1) f y := by
  induction h with
  | nil q => exact .cons h1 h2 h3 h4 (.nil y)
  | cons a b c e _ ih => exact .cons a b c e (ih h1 h2 h4)
theorem Path.fwd {k : Nat} {f q : Pc} (h : Path L d k f q) : ∃ pre : List Pc, pre.length = k ∧ (∀ x ∈ pre, x ∈ L) ∧ ∀ n, fwd L d (n + k) f = (fwd L d n q).map (pre ++ ·) := by
  induction h with
  | nil q => exact ⟨[], rfl, by simp, fun n => by simp⟩
  | @cons k f x q a b c e _ ih =>
    obtain ⟨pre, h1, h2, h3⟩ := ih
    refine ⟨f :: pre, by simp [h1], ?_, fun n => ?_⟩
    · intro y hy
      rcases List.mem_cons.1 hy with rfl | hy
      · exact e
      · exact h2 y hy
    · rw [← Nat.add_assoc]
      simp only [Rs.fwd]
      rw [a, b]
      dsimp only
      rw [if_pos c, h3 n, Option.map_map]
      rfl
/-- The way back is the way on. -/
theorem back_path (hn : (L.map (·.tsn)).Nodup) (hr : ∀ x ∈ L, 0 ≤ x.tsn ∧ x.tsn < 4294967296) : ∀ (n : Nat) (q f : Pc), q ∈ L → (mates q d = true) → back L d n q = some f →
    ∃ k, k < n ∧ Path L d k f q ∧ f ∈ L ∧ mates f d = true ∧ f.fi = true ∧ (f.tsn + k) % 4294967296 = q.tsn
  | 0, _, _, _, _, h => by simp [back] at h
  | n + 1, q, f, hq, hmq, h => by
    simp only [back] at h
    by_cases hf : q.fi = true
    · rw [if_pos hf] at h
      injection h with h
      subst h
      have := hr q hq
      exact ⟨0, by omega, .nil q, hq, hmq, hf, by omega⟩
    · rw [if_neg hf] at h
      cases hg : get L (dec q.tsn) with
      | none => rw [hg] at h; cases h
      | some x =>
        rw [hg] at h
        dsimp only at h
        by_cases hm : (mates x d && !x.la) = true
        · rw [if_pos hm] at h
          obtain ⟨hxm, hxt⟩ := get_mem hg
          simp only [Bool.and_eq_true, Bool.not_eq_true'] at hm
          obtain ⟨k, hk, hp, hfL, hfm, hff, hft⟩ := back_path hn hr n x f hxm hm.1 h
          have hq' := hr q hq
          have hx' := hr x hxm
          have hinc : inc x.tsn = q.tsn := by
            rw [hxt]
            unfold inc dec
            omega
          refine ⟨k + 1, by omega, hp.snoc hm.2 (by rw [hinc]; exact get_of_mem hn hq) (by rw [hmq]; simpa using hf) hxm, hfL, hfm, hff, ?_⟩
          rw [hxt] at hft
          unfold dec at hft
          omega
        · rw [if_neg hm] at h
          cases h
theorem mates_self (p : Pc) : mates p p = true := by simp [mates]
/-- A whole message, and its ends. -/
theorem whole_ends (hn : (L.map (·.tsn)).Nodup) (hr : ∀ x ∈ L, 0 ≤ x.tsn ∧ x.tsn < 4294967296) (hl : L.length < 1000000) (hd : d ∈ L) :
    (whole L d = none ∧ ends L d = (0, 0, false)) ∨
    ∃ l f z, whole L d = some l ∧ ends L d = (f, z, true) ∧ (∀ x ∈ l, x ∈ L) ∧ 0 < l.length ∧ l.length ≤ L.length ∧ (∀ i (h : i < l.length), l[i].tsn = (f + i) % 4294967296) ∧ l.head?.map (·.tsn) = some f ∧ l.getLast?.map (·.tsn) = some z ∧
      d ∈ l ∧ (∀ x ∈ l, mates x d = true) := by
  unfold whole ends
  cases hb : back L d L.length d with
  | none => exact .inl ⟨rfl, rfl⟩
  | some f =>
    obtain ⟨k, hk, hp, hfL, hfm, hff, hft⟩ := back_path hn hr L.length d f hd (mates_self d) hb
    obtain ⟨pre, hpl, hpm, hpf⟩ := hp.fwd
    have hN : L.length = (L.length - k) + k := by omega
    dsimp only [Option.bind]
    have hfw : fwd L d L.length f = (fwd L d (L.length - k) d).map (pre ++ ·) := by
      have := hpf (L.length - k)
      rwa [← hN] at this
    cases hlo : lastOf L d L.length d with
    | none =>
      refine .inl ⟨?_, rfl⟩
      rw [hfw]
      cases h2 : fwd L d (L.length - k) d with
      | none => rfl
      | some l2 =>
        have h3 := fwd_mono _ L.length d l2 h2 (by omega)
        have h4 := (fwd_spec _ _ _ h3).2.2.2.2.1
        rw [hlo] at h4
        obtain ⟨l', hl'⟩ := (fwd_spec _ _ _ h3).2.2.1
        rw [hl', List.getLast?_cons] at h4
        cases h4
    | some z =>
      obtain ⟨l2, hl2⟩ := lastOf_some _ _ _ hlo
      obtain ⟨s1, s2, ⟨l2', s3⟩, s4, s5, s6⟩ := fwd_spec _ _ _ hl2
      -- the message whole, with just the fuel that it needs
      have hwh : fwd L d (l2.length + k) f = some (pre ++ l2) := by rw [hpf l2.length, s2]; rfl
      obtain ⟨t1, t2, ⟨t3', t3⟩, t4, t5, t6⟩ := fwd_spec _ _ _ hwh
      have hlen : (pre ++ l2).length = k + l2.length := by simp [hpl]
      have hin : ∀ x ∈ pre ++ l2, x ∈ L := t4 hfL
      have htot : k + l2.length ≤ L.length := by
        have := pigeon (pre ++ l2).length (fun i => (f.tsn + i) % 4294967296) (L.map (·.tsn)) (fun i j hi hj e => by
          have h1 : (f.tsn + i) % 4294967296 = (f.tsn + j) % 4294967296 := e
          rw [hlen] at hi hj
          omega) (fun i hi => by
          show (f.tsn + i) % 4294967296 ∈ _
          rw [← t6 i hi]
          have hm := hin _ (List.getElem_mem hi)
          have := hr _ hm
          rw [show (pre ++ l2)[i].tsn % 4294967296 = (pre ++ l2)[i].tsn by omega]
          exact List.mem_map_of_mem (f := (·.tsn)) hm)
        rw [hlen] at this
        simpa using this
      have hw : fwd L d L.length f = some (pre ++ l2) := fwd_mono _ L.length f _ hwh (by omega)
      refine .inr ⟨pre ++ l2, f.tsn, z.tsn, hw, rfl, hin, by rw [hlen, s3, List.length_cons]; omega, by omega, ?_, ?_, ?_, ?_, ?_⟩
      · intro i hi
        have h1 := t6 i hi
        have := hr _ (hin _ (List.getElem_mem hi))
        omega
      · rw [t3]; rfl
      · have h1 := (fwd_spec _ _ _ hl2).2.2.2.2.1
        rw [hlo] at h1
        rw [List.getLast?_append, ← h1]
        rfl
      · rw [s3]; simp
      · exact fwd_mates L.length f _ hfm hw
where
  fwd_mates : ∀ (n : Nat) (q : Pc) (l : List Pc), mates q d = true → fwd L d n q = some l → ∀ x ∈ l, mates x d = true
  | 0, _, _, _, h => by simp [Rs.fwd] at h
  | n + 1, q, l, hq, h => by
    simp only [Rs.fwd] at h
    by_cases hl : q.la = true
    · rw [if_pos hl] at h
      injection h with h
      subst h
      simpa using hq
    · rw [if_neg hl] at h
      cases hg : get L (inc q.tsn) with
      | none => rw [hg] at h; cases h
      | some x =>
        rw [hg] at h
        dsimp only at h
        by_cases hm : (mates x d && !x.fi) = true
        · rw [if_pos hm] at h
          obtain ⟨l', hl', rfl⟩ := Option.map_eq_some_iff.1 h
          simp only [Bool.and_eq_true] at hm
          intro y hy
          rcases List.mem_cons.1 hy with rfl | hy
          · exact hq
          · exact fwd_mates n x l' hm.1 hl' y hy
        · rw [if_neg hm] at h
          cases h
end
theorem put_stream {s : St} {d : Pc} (h : s.next.length ≤ d.stream.toNat) : put s d = (s, 4) := by
  unfold put
  rw [if_pos h]
theorem put_size {s : St} {d : Pc} (h : ¬ s.next.length ≤ d.stream.toNat) (h2 : d.bytes.length = 0) : put s d = (s, 5) := by
  unfold put
  rw [if_neg h, if_pos h2]
theorem put_late {s : St} {d : Pc} (h : ¬ s.next.length ≤ d.stream.toNat) (h2 : ¬ d.bytes.length = 0) (h3 : (!d.un && less16 d.ssn (nextOf s d.stream)) = true) : put s d = (s, 1) := by
  unfold put
  rw [if_neg h, if_neg h2, if_pos h3]
theorem put_there {s : St} {d : Pc} (h : ¬ s.next.length ≤ d.stream.toNat) (h2 : ¬ d.bytes.length = 0) (h3 : (!d.un && less16 d.ssn (nextOf s d.stream)) = false) (h4 : (get s.L d.tsn).isSome = true) : put s d = (s, 1) := by
  unfold put
  rw [if_neg h, if_neg h2, if_neg (by rw [h3]; simp), if_pos h4]
theorem put_ord {s : St} {d : Pc} (h : ¬ s.next.length ≤ d.stream.toNat) (h2 : ¬ d.bytes.length = 0) (h3 : (!d.un && less16 d.ssn (nextOf s d.stream)) = false) (h4 : get s.L d.tsn = none) (h5 : d.un = false) :
    put s d = (onAll { s with L := s.L ++ [d] } d.stream, 0) := by
  unfold put
  rw [if_neg h, if_neg h2, if_neg (by rw [h3]; simp), if_neg (by rw [h4]; simp)]
  simp [h5]
theorem put_un {s : St} {d : Pc} (h : ¬ s.next.length ≤ d.stream.toNat) (h2 : ¬ d.bytes.length = 0) (h4 : get s.L d.tsn = none) (h5 : d.un = true) :
    put s d = (match whole (s.L ++ [d]) d with
      | some l => (ready { s with L := s.L ++ [d] } l, 0)
      | none => ({ s with L := s.L ++ [d] }, 0)) := by
  unfold put
  rw [if_neg h, if_neg h2, if_neg (by rw [h5]; simp), if_neg (by rw [h4]; simp)]
  simp [h5]
  rfl
end Go.Proofs.Ytpkbckkminmdmaa.Rs
