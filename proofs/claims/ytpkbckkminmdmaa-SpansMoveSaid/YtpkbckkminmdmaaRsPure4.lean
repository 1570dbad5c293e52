/- The meaning of package reasm as plain functions on lists: no Go and no memory. Plain laws on chains of pieces: no Go and no memory. Plain laws: 'whole' of a piece and its two ends. Plain laws: the bytes that are held. Plain laws: readying keeps what is held; numbers that are skipped. -/
namespace Go.Proofs.Ytpkbckkminmdmaa.Rs

structure Pc where
  tsn : Int
  stream : Int
  ssn : Int
  un : Bool
  fi : Bool
  la : Bool
  bytes : List Int

structure Ms where
  stream : Int
  ord : Bool
  bytes : List Int

structure St where
  L : List Pc
  next : List Int
  row : List Ms

def inc (t : Int) : Int := (t + 1) % 4294967296
def dec (t : Int) : Int := (t - 1) % 4294967296
def inc16 (t : Int) : Int := (t + 1) % 65536
def less16 (a b : Int) : Bool := decide (1 ≤ (b - a) % 65536) && decide ((b - a) % 65536 < 32768)
def less32 (a b : Int) : Bool := decide (1 ≤ (b - a) % 4294967296) && decide ((b - a) % 4294967296 < 2147483648)
def mates (a b : Pc) : Bool := a.stream == b.stream && a.ssn == b.ssn && a.un == b.un
def get (L : List Pc) (t : Int) : Option Pc := L.find? fun p => p.tsn == t

def back (L : List Pc) (d : Pc) : Nat → Pc → Option Pc
  | 0, _ => none
  | n + 1, q => if q.fi then some q else
    match get L (dec q.tsn) with
    | none => none
    | some x => if mates x d && !x.la then back L d n x else none
def fwd (L : List Pc) (d : Pc) : Nat → Pc → Option (List Pc)
  | 0, _ => none
  | n + 1, q => if q.la then some [q] else
    match get L (inc q.tsn) with
    | none => none
    | some x => if mates x d && !x.fi then (fwd L d n x).map (q :: ·) else none
def whole (L : List Pc) (p : Pc) : Option (List Pc) := (back L p L.length p).bind fun f => fwd L p L.length f

def msgOf (l : List Pc) : Ms := { stream := (l.head?.map (·.stream)).getD 0, ord := !((l.head?.map (·.un)).getD false), bytes := l.flatMap (·.bytes) }
def without (L l : List Pc) : List Pc := L.filter fun p => !(l.any fun q => q.tsn == p.tsn)
def ready (s : St) (l : List Pc) : St := { L := without s.L l, next := s.next, row := s.row ++ [msgOf l] }
def nextOf (s : St) (stream : Int) : Int := s.next.getD stream.toNat 0
def bump (s : St) (stream : Int) : St := { s with next := s.next.set stream.toNat (inc16 (nextOf s stream)) }
def fits (p : Pc) (stream ssn : Int) : Bool := !p.un && p.stream == stream && p.ssn == ssn
def ordered (L : List Pc) (stream ssn : Int) : Option (List Pc) := L.findSome? fun p => if fits p stream ssn then whole L p else none

/-- One call of 'waiting'. -/
def waiting (s : St) (stream : Int) : Option St := (ordered s.L stream (nextOf s stream)).map (ready s)
def on (stream : Int) : Nat → St → St
  | 0, s => s
  | n + 1, s => match waiting s stream with
    | none => s
    | some s' => on stream n (bump s' stream)
def onAll (s : St) (stream : Int) : St := on stream (s.L.length + 1) s

def put (s : St) (d : Pc) : St × Int :=
  if d.stream.toNat ≥ s.next.length then (s, 4)
  else if d.bytes.length = 0 then (s, 5)
  else if !d.un && less16 d.ssn (nextOf s d.stream) then (s, 1)
  else if (get s.L d.tsn).isSome then (s, 1)
  else
    let s1 : St := { s with L := s.L ++ [d] }
    if !d.un then (onAll s1 d.stream, 0)
    else match whole s1.L d with
      | some l => (ready s1 l, 0)
      | none => (s1, 0)

def parts (L : List Pc) (cum : Int) : List Pc := L.filter fun p => (p.tsn != cum && !less32 p.tsn cum) || (whole L p).isSome
def skipTo (stream to : Int) : Nat → St → St
  | 0, s => s
  | n + 1, s => if nextOf s stream = inc16 to then s else
    let s' := (waiting s stream).getD s
    skipTo stream to n (bump s' stream)
def late (s : St) (stream : Int) : List Pc := s.L.filter fun p => p.un || p.stream != stream || !less16 p.ssn (nextOf s stream)
def skip1 (s : St) (stream to : Int) : St :=
  if nextOf s stream != to && !less16 (nextOf s stream) to then s
  else
    let s1 := skipTo stream to 65537 s
    let s2 : St := { s1 with L := late s1 stream }
    onAll s2 stream
def skipAll (s : St) : List (Int × Int) → St
  | [] => s
  | (a, b) :: r => skipAll (skip1 s a b) r
def skip (s : St) (cum : Int) (sk : List (Int × Int)) : St × Int :=
  if sk.any fun x => decide (x.1.toNat ≥ s.next.length) then (s, 4)
  else (skipAll { s with L := parts s.L cum } sk, 0)
def take (s : St) : Option (Ms × St) := match s.row with
  | [] => none
  | m :: r => some (m, { s with row := r })
def held (s : St) : Int := (s.L.map fun p => (p.bytes.length : Int)).sum + (s.row.map fun m => (m.bytes.length : Int)).sum
def new (streams : Nat) : St := { L := [], next := List.replicate streams 0, row := [] }

end Go.Proofs.Ytpkbckkminmdmaa.Rs
namespace Go.Proofs.Ytpkbckkminmdmaa.Rs

theorem get_mem {L : List Pc} {t : Int} {x : Pc} (h : get L t = some x) : x ∈ L ∧ x.tsn = t := by
  refine ⟨List.mem_of_find?_eq_some h, ?_⟩
  have := List.find?_some h
  simpa using this
theorem get_of_mem {L : List Pc} (hn : (L.map (·.tsn)).Nodup) {x : Pc} (hx : x ∈ L) : get L x.tsn = some x := by
  induction L with
  | nil => cases hx
  | cons a l ih =>
    have hn' := List.nodup_cons.1 (show (a.tsn :: l.map (·.tsn)).Nodup from hn)
    rcases List.mem_cons.1 hx with rfl | hx
    · simp [get]
    · have hne : a.tsn ≠ x.tsn := fun e => hn'.1 (by rw [e]; exact List.mem_map_of_mem (f := (·.tsn)) hx)
      have : get (a :: l) x.tsn = get l x.tsn := by simp [get, hne]
      rw [this]
      exact ih hn'.2 hx

/-- So many different keys: so many elements. -/
theorem pigeon : ∀ (n : Nat) (f : Nat → Int) (l : List Int), (∀ i j, i < n → j < n → f i = f j → i = j) → (∀ i, i < n → f i ∈ l) → n ≤ l.length
  | 0, _, _, _, _ => Nat.zero_le _
  | n + 1, f, l, hinj, hmem => by
    have hm := hmem n (by omega)
    have h := pigeon n f (l.erase (f n)) (fun i j hi hj => hinj i j (by omega) (by omega)) (fun i hi => by
      have hne : f i ≠ f n := fun e => by have := hinj i n (by omega) (by omega) e; omega
      exact (List.mem_erase_of_ne hne).2 (hmem i (by omega)))
    rw [List.length_erase_of_mem hm] at h
    have : 0 < l.length := List.length_pos_of_mem hm
    omega
def downTo (L : List Pc) (t : Int) (k : Nat) : Prop := ∀ j, j ≤ k → (get L ((t - j) % 4294967296)).isSome = true
def upTo (L : List Pc) (t : Int) (k : Nat) : Prop := ∀ j, j ≤ k → (get L ((t + j) % 4294967296)).isSome = true
theorem down_len {L : List Pc} {t : Int} {k : Nat} (h : downTo L t k) (hk : k < 4294967296) : k + 1 ≤ L.length := by
  have := pigeon (k + 1) (fun j => (t - j) % 4294967296) (L.map (·.tsn)) (fun i j hi hj e => by omega) (fun i hi => by
    have := h i (by omega)
    obtain ⟨x, hx⟩ := Option.isSome_iff_exists.1 this
    obtain ⟨hm, ht⟩ := get_mem hx
    show (t - i) % 4294967296 ∈ _
    rw [← ht]
    exact List.mem_map_of_mem (f := (·.tsn)) hm)
  simpa using this
theorem up_len {L : List Pc} {t : Int} {k : Nat} (h : upTo L t k) (hk : k < 4294967296) : k + 1 ≤ L.length := by
  have := pigeon (k + 1) (fun j => (t + j) % 4294967296) (L.map (·.tsn)) (fun i j hi hj e => by omega) (fun i hi => by
    have := h i (by omega)
    obtain ⟨x, hx⟩ := Option.isSome_iff_exists.1 this
    obtain ⟨hm, ht⟩ := get_mem hx
    show (t + i) % 4294967296 ∈ _
    rw [← ht]
    exact List.mem_map_of_mem (f := (·.tsn)) hm)
  simpa using this
theorem down_step {L : List Pc} {t : Int} {k : Nat} (h : downTo L t k) (hs : (get L (dec ((t - k) % 4294967296))).isSome = true) : downTo L t (k + 1) := by
  intro j hj
  rcases Nat.lt_or_ge j (k + 1) with h1 | h1
  · exact h j (by omega)
  · have : j = k + 1 := by omega
    subst this
    have e : dec ((t - k) % 4294967296) = (t - ((k + 1 : Nat) : Int)) % 4294967296 := by unfold dec; omega
    rw [← e]
    exact hs
theorem up_step {L : List Pc} {t : Int} {k : Nat} (h : upTo L t k) (hs : (get L (inc ((t + k) % 4294967296))).isSome = true) : upTo L t (k + 1) := by
  intro j hj
  rcases Nat.lt_or_ge j (k + 1) with h1 | h1
  · exact h j (by omega)
  · have : j = k + 1 := by omega
    subst this
    have e : inc ((t + k) % 4294967296) = (t + ((k + 1 : Nat) : Int)) % 4294967296 := by unfold inc; omega
    rw [← e]
    exact hs

/-- The last piece, from q on. -/
def lastOf (L : List Pc) (d : Pc) : Nat → Pc → Option Pc
  | 0, _ => none
  | n + 1, q => if q.la then some q else
    match get L (inc q.tsn) with
    | none => none
    | some x => if mates x d && !x.fi then lastOf L d n x else none
def ends (L : List Pc) (p : Pc) : Int × Int × Bool :=
  match back L p L.length p, lastOf L p L.length p with
  | some f, some l => (f.tsn, l.tsn, true)
  | _, _ => (0, 0, false)

/-- Where the walk back stands: k steps behind t, n steps of fuel left. -/
structure AtBack (L : List Pc) (d : Pc) (q : Pc) (n k : Nat) : Prop where
  mem : q ∈ L
  tsn : q.tsn = (d.tsn - k) % 4294967296
  all : downTo L d.tsn k
  fuel : n + k = L.length
  same : back L d n q = back L d L.length d
structure AtFwd (L : List Pc) (d : Pc) (q : Pc) (n k : Nat) : Prop where
  mem : q ∈ L
  tsn : q.tsn = (d.tsn + k) % 4294967296
  all : upTo L d.tsn k
  fuel : n + k = L.length
  same : lastOf L d n q = lastOf L d L.length d
section
variable {L : List Pc} {d q x : Pc} {n k : Nat}
theorem AtBack.start (hn : (L.map (·.tsn)).Nodup) (hd : d ∈ L) (h0 : 0 ≤ d.tsn) (h1 : d.tsn < 4294967296) : AtBack L d d L.length 0 :=
  ⟨hd, by omega, fun j hj => by
    have : j = 0 := by omega
    subst this
    have e : (d.tsn - ((0 : Nat) : Int)) % 4294967296 = d.tsn := by omega
    rw [e, get_of_mem hn hd]
    rfl, rfl, rfl⟩
theorem AtBack.pos (h : AtBack L d q n k) (hl : L.length < 4294967296) : 0 < n := by
  have h1 := h.fuel
  have := down_len h.all (by omega)
  omega
theorem AtBack.stop (h : AtBack L d q n k) (hl : L.length < 4294967296) (hf : q.fi = true) : back L d L.length d = some q := by
  rw [← h.same]
  obtain ⟨m, rfl⟩ : ∃ m, n = m + 1 := ⟨n - 1, by have := h.pos hl; omega⟩
  simp [back, hf]
theorem AtBack.miss (h : AtBack L d q n k) (hl : L.length < 4294967296) (hf : q.fi = false) (hg : get L (dec q.tsn) = none) : back L d L.length d = none := by
  rw [← h.same]
  obtain ⟨m, rfl⟩ : ∃ m, n = m + 1 := ⟨n - 1, by have := h.pos hl; omega⟩
  simp [back, hf, hg]
theorem AtBack.bad (h : AtBack L d q n k) (hl : L.length < 4294967296) (hf : q.fi = false) (hg : get L (dec q.tsn) = some x) (hx : (mates x d && !x.la) = false) : back L d L.length d = none := by
  rw [← h.same]
  obtain ⟨m, rfl⟩ : ∃ m, n = m + 1 := ⟨n - 1, by have := h.pos hl; omega⟩
  simp only [back, hf, hg, hx]
  rfl
theorem AtBack.step (h : AtBack L d q n k) (hl : L.length < 4294967296) (hf : q.fi = false) (hg : get L (dec q.tsn) = some x) (hx : (mates x d && !x.la) = true) : AtBack L d x (n - 1) (k + 1) := by
  have h0 := h.pos hl
  obtain ⟨hm, ht⟩ := get_mem hg
  refine ⟨hm, ?_, down_step h.all (by rw [← h.tsn, hg]; rfl), by have := h.fuel; omega, ?_⟩
  · rw [ht, h.tsn]
    unfold dec
    omega
  · rw [← h.same]
    obtain ⟨m, rfl⟩ : ∃ m, n = m + 1 := ⟨n - 1, by omega⟩
    simp only [back, hf, hg, hx, Nat.add_sub_cancel]
    rfl
theorem AtFwd.start (hn : (L.map (·.tsn)).Nodup) (hd : d ∈ L) (h0 : 0 ≤ d.tsn) (h1 : d.tsn < 4294967296) : AtFwd L d d L.length 0 :=
  ⟨hd, by omega, fun j hj => by
    have : j = 0 := by omega
    subst this
    have e : (d.tsn + ((0 : Nat) : Int)) % 4294967296 = d.tsn := by omega
    rw [e, get_of_mem hn hd]
    rfl, rfl, rfl⟩
theorem AtFwd.pos (h : AtFwd L d q n k) (hl : L.length < 4294967296) : 0 < n := by
  have h1 := h.fuel
  have := up_len h.all (by omega)
  omega
theorem AtFwd.stop (h : AtFwd L d q n k) (hl : L.length < 4294967296) (hf : q.la = true) : lastOf L d L.length d = some q := by
  rw [← h.same]
  obtain ⟨m, rfl⟩ : ∃ m, n = m + 1 := ⟨n - 1, by have := h.pos hl; omega⟩
  simp [lastOf, hf]
theorem AtFwd.miss (h : AtFwd L d q n k) (hl : L.length < 4294967296) (hf : q.la = false) (hg : get L (inc q.tsn) = none) : lastOf L d L.length d = none := by
  rw [← h.same]
  obtain ⟨m, rfl⟩ : ∃ m, n = m + 1 := ⟨n - 1, by have := h.pos hl; omega⟩
  simp [lastOf, hf, hg]
theorem AtFwd.bad (h : AtFwd L d q n k) (hl : L.length < 4294967296) (hf : q.la = false) (hg : get L (inc q.tsn) = some x) (hx : (mates x d && !x.fi) = false) : lastOf L d L.length d = none := by
  rw [← h.same]
  obtain ⟨m, rfl⟩ : ∃ m, n = m + 1 := ⟨n - 1, by have := h.pos hl; omega⟩
  simp only [lastOf, hf, hg, hx]
  rfl
theorem AtFwd.step (h : AtFwd L d q n k) (hl : L.length < 4294967296) (hf : q.la = false) (hg : get L (inc q.tsn) = some x) (hx : (mates x d && !x.fi) = true) : AtFwd L d x (n - 1) (k + 1) := by
  have h0 := h.pos hl
  obtain ⟨hm, ht⟩ := get_mem hg
  refine ⟨hm, ?_, up_step h.all (by rw [← h.tsn, hg]; rfl), by have := h.fuel; omega, ?_⟩
  · rw [ht, h.tsn]
    unfold inc
    omega
  · rw [← h.same]
    obtain ⟨m, rfl⟩ : ∃ m, n = m + 1 := ⟨n - 1, by omega⟩
    simp only [lastOf, hf, hg, hx, Nat.add_sub_cancel]
    rfl
end
end Go.Proofs.Ytpkbckkminmdmaa.Rs
namespace Go.Proofs.Ytpkbckkminmdmaa.Rs

section
variable {L : List Pc} {d : Pc}
theorem fwd_mono : ∀ (n n' : Nat) (q : Pc) (l : List Pc), fwd L d n q = some l → n ≤ n' → fwd L d n' q = some l
  | 0, _, _, _, h, _ => by simp [fwd] at h
  | n + 1, 0, _, _, _, h => by omega
  | n + 1, n' + 1, q, l, h, hn => by
    simp only [fwd] at h ⊢
    split
    · rename_i hl
      rwa [if_pos hl] at h
    · rename_i hl
      rw [if_neg hl] at h
      split
      · rename_i hg
        rw [hg] at h
        exact h
      · rename_i x hg
        rw [hg] at h
        dsimp only at h
        split
        · rename_i hm
          rw [if_pos hm] at h
          obtain ⟨l', hl', rfl⟩ := Option.map_eq_some_iff.1 h
          rw [fwd_mono n n' x l' hl' (by omega)]
          rfl
        · rename_i hm
          rw [if_neg hm] at h
          exact h
theorem fwd_spec : ∀ (n : Nat) (q : Pc) (l : List Pc), fwd L d n q = some l → l.length ≤ n ∧ fwd L d l.length q = some l ∧ (∃ l', l = q :: l') ∧ (q ∈ L → ∀ x ∈ l, x ∈ L) ∧ lastOf L d n q = l.getLast? ∧
    (∀ i (h : i < l.length), l[i].tsn % 4294967296 = (q.tsn + i) % 4294967296)
  | 0, _, _, h => by simp [fwd] at h
  | n + 1, q, l, h => by
    simp only [fwd] at h
    by_cases hl : q.la = true
    · rw [if_pos hl] at h
      injection h with h
      subst h
      refine ⟨by simp, by simp [fwd, hl], ⟨[], rfl⟩, by simp, by simp [lastOf, hl], ?_⟩
      intro i hi
      have : i = 0 := by simpa using hi
      subst this
      simp
    · rw [if_neg hl] at h
      cases hg : get L (inc q.tsn) with
      | none => rw [hg] at h; cases h
      | some x =>
        rw [hg] at h
        dsimp only at h
        by_cases hm : (mates x d && !x.fi) = true
        · rw [if_pos hm] at h
          obtain ⟨l', hl', rfl⟩ := Option.map_eq_some_iff.1 h
          obtain ⟨h1, h2, ⟨l2, h3⟩, h4, h5, h6⟩ := fwd_spec n x l' hl'
          have hgm := get_mem hg
          refine ⟨by simp; omega, ?_, ⟨l', rfl⟩, ?_, ?_, ?_⟩
          · simp only [List.length_cons, fwd]
            rw [if_neg hl, hg]
            dsimp only
            rw [if_pos hm, h2]
            rfl
          · intro hq y hy
            rcases List.mem_cons.1 hy with rfl | hy
            · exact hq
            · exact h4 hgm.1 y hy
          · simp only [lastOf]
            rw [if_neg hl, hg]
            dsimp only
            rw [if_pos hm, h5, h3]
            simp
          · intro i hi
            cases i with
            | zero => simp
            | succ i =>
              have := h6 i (by simpa using hi)
              simp only [List.getElem_cons_succ]
              rw [this, hgm.2]
              unfold inc
              omega
        · rw [if_neg hm] at h
          cases h
theorem lastOf_some : ∀ (n : Nat) (q z : Pc), lastOf L d n q = some z → ∃ l, fwd L d n q = some l
  | 0, _, _, h => by simp [lastOf] at h
  | n + 1, q, z, h => by
    simp only [lastOf] at h
    simp only [fwd]
    by_cases hl : q.la = true
    · exact ⟨[q], by rw [if_pos hl]⟩
    · rw [if_neg hl] at h ⊢
      cases hg : get L (inc q.tsn) with
      | none => rw [hg] at h; cases h
      | some x =>
        rw [hg] at h
        dsimp only at h ⊢
        by_cases hm : (mates x d && !x.fi) = true
        · rw [if_pos hm] at h ⊢
          obtain ⟨l, hl⟩ := lastOf_some n x z h
          exact ⟨q :: l, by rw [hl]; rfl⟩
        · rw [if_neg hm] at h
          cases h

/-- From f, k steps on, one comes to q. -/
inductive Path (L : List Pc) (d : Pc) : Nat → Pc → Pc → Prop
  | nil (q : Pc) : Path L d 0 q q
  | cons {k : Nat} {f x q : Pc} : f.la = false → get L (inc f.tsn) = some x → (mates x d && !x.fi) = true → f ∈ L → Path L d k x q → Path L d (k + 1) f q
theorem Path.snoc {k : Nat} {f q y : Pc} (h : Path L d k f q) (h1 : q.la = false) (h2 : get L (inc q.tsn) = some y) (h3 : (mates y d && !y.fi) = true) (h4 : q ∈ L) : Path L d (k + 1) f y := by
  induction h with
  | nil q => exact .cons h1 h2 h3 h4 (.nil y)
  | cons a b c e _ ih => exact .cons a b c e (ih h1 h2 h4)
theorem Path.fwd {k : Nat} {f q : Pc} (h : Path L d k f q) : ∃ pre : List Pc, pre.length = k ∧ (∀ x ∈ pre, x ∈ L) ∧ ∀ n, fwd L d (n + k) f = (fwd L d n q).map (pre ++ ·) := by
  induction h with
  | nil q => exact ⟨[], rfl, by simp, fun n => by simp⟩
  | @cons k f x q a b c e _ ih =>
    obtain ⟨pre, h1, h2, h3⟩ := ih
    refine ⟨f :: pre, by simp [h1], ?_, fun n => ?_⟩
    · intro y hy
      rcases List.mem_cons.1 hy with rfl | hy
      · exact e
      · exact h2 y hy
    · rw [← Nat.add_assoc]
      simp only [Rs.fwd]
      rw [a, b]
      dsimp only
      rw [if_pos c, h3 n, Option.map_map]
      rfl
/-- The way back is the way on. -/
theorem back_path (hn : (L.map (·.tsn)).Nodup) (hr : ∀ x ∈ L, 0 ≤ x.tsn ∧ x.tsn < 4294967296) : ∀ (n : Nat) (q f : Pc), q ∈ L → (mates q d = true) → back L d n q = some f →
    ∃ k, k < n ∧ Path L d k f q ∧ f ∈ L ∧ mates f d = true ∧ f.fi = true ∧ (f.tsn + k) % 4294967296 = q.tsn
  | 0, _, _, _, _, h => by simp [back] at h
  | n + 1, q, f, hq, hmq, h => by
    simp only [back] at h
    by_cases hf : q.fi = true
    · rw [if_pos hf] at h
      injection h with h
      subst h
      have := hr q hq
      exact ⟨0, by omega, .nil q, hq, hmq, hf, by omega⟩
    · rw [if_neg hf] at h
      cases hg : get L (dec q.tsn) with
      | none => rw [hg] at h; cases h
      | some x =>
        rw [hg] at h
        dsimp only at h
        by_cases hm : (mates x d && !x.la) = true
        · rw [if_pos hm] at h
          obtain ⟨hxm, hxt⟩ := get_mem hg
          simp only [Bool.and_eq_true, Bool.not_eq_true'] at hm
          obtain ⟨k, hk, hp, hfL, hfm, hff, hft⟩ := back_path hn hr n x f hxm hm.1 h
          have hq' := hr q hq
          have hx' := hr x hxm
          have hinc : inc x.tsn = q.tsn := by
            rw [hxt]
            unfold inc dec
            omega
          refine ⟨k + 1, by omega, hp.snoc hm.2 (by rw [hinc]; exact get_of_mem hn hq) (by rw [hmq]; simpa using hf) hxm, hfL, hfm, hff, ?_⟩
          rw [hxt] at hft
          unfold dec at hft
          omega
        · rw [if_neg hm] at h
          cases h
theorem mates_self (p : Pc) : mates p p = true := by simp [mates]
/-- A whole message, and its ends. -/
theorem whole_ends (hn : (L.map (·.tsn)).Nodup) (hr : ∀ x ∈ L, 0 ≤ x.tsn ∧ x.tsn < 4294967296) (hl : L.length < 1000000) (hd : d ∈ L) :
    (whole L d = none ∧ ends L d = (0, 0, false)) ∨
    ∃ l f z, whole L d = some l ∧ ends L d = (f, z, true) ∧ (∀ x ∈ l, x ∈ L) ∧ 0 < l.length ∧ l.length ≤ L.length ∧ (∀ i (h : i < l.length), l[i].tsn = (f + i) % 4294967296) ∧ l.head?.map (·.tsn) = some f ∧ l.getLast?.map (·.tsn) = some z ∧
      d ∈ l ∧ (∀ x ∈ l, mates x d = true) := by
  unfold whole ends
  cases hb : back L d L.length d with
  | none => exact .inl ⟨rfl, rfl⟩
  | some f =>
    obtain ⟨k, hk, hp, hfL, hfm, hff, hft⟩ := back_path hn hr L.length d f hd (mates_self d) hb
    obtain ⟨pre, hpl, hpm, hpf⟩ := hp.fwd
    have hN : L.length = (L.length - k) + k := by omega
    dsimp only [Option.bind]
    have hfw : fwd L d L.length f = (fwd L d (L.length - k) d).map (pre ++ ·) := by
      have := hpf (L.length - k)
      rwa [← hN] at this
    cases hlo : lastOf L d L.length d with
    | none =>
      refine .inl ⟨?_, rfl⟩
      rw [hfw]
      cases h2 : fwd L d (L.length - k) d with
      | none => rfl
      | some l2 =>
        have h3 := fwd_mono _ L.length d l2 h2 (by omega)
        have h4 := (fwd_spec _ _ _ h3).2.2.2.2.1
        rw [hlo] at h4
        obtain ⟨l', hl'⟩ := (fwd_spec _ _ _ h3).2.2.1
        rw [hl', List.getLast?_cons] at h4
        cases h4
    | some z =>
      obtain ⟨l2, hl2⟩ := lastOf_some _ _ _ hlo
      obtain ⟨s1, s2, ⟨l2', s3⟩, s4, s5, s6⟩ := fwd_spec _ _ _ hl2
      -- the message whole, with just the fuel that it needs
      have hwh : fwd L d (l2.length + k) f = some (pre ++ l2) := by rw [hpf l2.length, s2]; rfl
      obtain ⟨t1, t2, ⟨t3', t3⟩, t4, t5, t6⟩ := fwd_spec _ _ _ hwh
      have hlen : (pre ++ l2).length = k + l2.length := by simp [hpl]
      have hin : ∀ x ∈ pre ++ l2, x ∈ L := t4 hfL
      have htot : k + l2.length ≤ L.length := by
        have := pigeon (pre ++ l2).length (fun i => (f.tsn + i) % 4294967296) (L.map (·.tsn)) (fun i j hi hj e => by
          have h1 : (f.tsn + i) % 4294967296 = (f.tsn + j) % 4294967296 := e
          rw [hlen] at hi hj
          omega) (fun i hi => by
          show (f.tsn + i) % 4294967296 ∈ _
          rw [← t6 i hi]
          have hm := hin _ (List.getElem_mem hi)
          have := hr _ hm
          rw [show (pre ++ l2)[i].tsn % 4294967296 = (pre ++ l2)[i].tsn by omega]
          exact List.mem_map_of_mem (f := (·.tsn)) hm)
        rw [hlen] at this
        simpa using this
      have hw : fwd L d L.length f = some (pre ++ l2) := fwd_mono _ L.length f _ hwh (by omega)
      refine .inr ⟨pre ++ l2, f.tsn, z.tsn, hw, rfl, hin, by rw [hlen, s3, List.length_cons]; omega, by omega, ?_, ?_, ?_, ?_, ?_⟩
      · intro i hi
        have h1 := t6 i hi
        have := hr _ (hin _ (List.getElem_mem hi))
        omega
      · rw [t3]; rfl
      · have h1 := (fwd_spec _ _ _ hl2).2.2.2.2.1
        rw [hlo] at h1
        rw [List.getLast?_append, ← h1]
        rfl
      · rw [s3]; simp
      · exact fwd_mates L.length f _ hfm hw
where
  fwd_mates : ∀ (n : Nat) (q : Pc) (l : List Pc), mates q d = true → fwd L d n q = some l → ∀ x ∈ l, mates x d = true
  | 0, _, _, _, h => by simp [Rs.fwd] at h
  | n + 1, q, l, hq, h => by
    simp only [Rs.fwd] at h
    by_cases hl : q.la = true
    · rw [if_pos hl] at h
      injection h with h
      subst h
      simpa using hq
    · rw [if_neg hl] at h
      cases hg : get L (inc q.tsn) with
      | none => rw [hg] at h; cases h
      | some x =>
        rw [hg] at h
        dsimp only at h
        by_cases hm : (mates x d && !x.fi) = true
        · rw [if_pos hm] at h
          obtain ⟨l', hl', rfl⟩ := Option.map_eq_some_iff.1 h
          simp only [Bool.and_eq_true] at hm
          intro y hy
          rcases List.mem_cons.1 hy with rfl | hy
          · exact hq
          · exact fwd_mates n x l' hm.1 hl' y hy
        · rw [if_neg hm] at h
          cases h
end
theorem put_stream {s : St} {d : Pc} (h : s.next.length ≤ d.stream.toNat) : put s d = (s, 4) := by
  unfold put
  rw [if_pos h]
theorem put_size {s : St} {d : Pc} (h : ¬ s.next.length ≤ d.stream.toNat) (h2 : d.bytes.length = 0) : put s d = (s, 5) := by
  unfold put
  rw [if_neg h, if_pos h2]
theorem put_late {s : St} {d : Pc} (h : ¬ s.next.length ≤ d.stream.toNat) (h2 : ¬ d.bytes.length = 0) (h3 : (!d.un && less16 d.ssn (nextOf s d.stream)) = true) : put s d = (s, 1) := by
  unfold put
  rw [if_neg h, if_neg h2, if_pos h3]
theorem put_there {s : St} {d : Pc} (h : ¬ s.next.length ≤ d.stream.toNat) (h2 : ¬ d.bytes.length = 0) (h3 : (!d.un && less16 d.ssn (nextOf s d.stream)) = false) (h4 : (get s.L d.tsn).isSome = true) : put s d = (s, 1) := by
  unfold put
  rw [if_neg h, if_neg h2, if_neg (by rw [h3]; simp), if_pos h4]
theorem put_ord {s : St} {d : Pc} (h : ¬ s.next.length ≤ d.stream.toNat) (h2 : ¬ d.bytes.length = 0) (h3 : (!d.un && less16 d.ssn (nextOf s d.stream)) = false) (h4 : get s.L d.tsn = none) (h5 : d.un = false) :
    put s d = (onAll { s with L := s.L ++ [d] } d.stream, 0) := by
  unfold put
  rw [if_neg h, if_neg h2, if_neg (by rw [h3]; simp), if_neg (by rw [h4]; simp)]
  simp [h5]
theorem put_un {s : St} {d : Pc} (h : ¬ s.next.length ≤ d.stream.toNat) (h2 : ¬ d.bytes.length = 0) (h4 : get s.L d.tsn = none) (h5 : d.un = true) :
    put s d = (match whole (s.L ++ [d]) d with
      | some l => (ready { s with L := s.L ++ [d] } l, 0)
      | none => ({ s with L := s.L ++ [d] }, 0)) := by
  unfold put
  rw [if_neg h, if_neg h2, if_neg (by rw [h5]; simp), if_neg (by rw [h4]; simp)]
  simp [h5]
end Go.Proofs.Ytpkbckkminmdmaa.Rs
namespace Go.Proofs.Ytpkbckkminmdmaa.Rs

def bytesOf (L : List Pc) : Int := (L.map fun p => (p.bytes.length : Int)).sum
def bytesOfM (L : List Ms) : Int := (L.map fun p => (p.bytes.length : Int)).sum
theorem held_eq (s : St) : held s = bytesOf s.L + bytesOfM s.row := rfl
theorem bytesOf_cons (p : Pc) (L : List Pc) : bytesOf (p :: L) = p.bytes.length + bytesOf L := by simp [bytesOf]
theorem bytesOf_append (L K : List Pc) : bytesOf (L ++ K) = bytesOf L + bytesOf K := by simp [bytesOf]
theorem bytesOfM_append (L K : List Ms) : bytesOfM (L ++ K) = bytesOfM L + bytesOfM K := by simp [bytesOfM]
theorem bytesOf_nonneg : ∀ (L : List Pc), 0 ≤ bytesOf L
  | [] => by simp [bytesOf]
  | p :: L => by rw [bytesOf_cons]; have := bytesOf_nonneg L; omega
theorem bytesOfM_nonneg : ∀ (L : List Ms), 0 ≤ bytesOfM L
  | [] => by simp [bytesOfM]
  | p :: L => by
    have := bytesOfM_nonneg L
    simp only [bytesOfM, List.map_cons, List.sum_cons] at *
    omega
theorem bytesOf_split (f : Pc → Bool) : ∀ (L : List Pc), bytesOf L = bytesOf (L.filter f) + bytesOf (L.filter fun x => !f x)
  | [] => by simp [bytesOf]
  | p :: L => by
    have := bytesOf_split f L
    cases h : f p <;> simp [h, bytesOf_cons] <;> omega
theorem filter_one {L : List Pc} (hn : (L.map (·.tsn)).Nodup) {d : Pc} (hd : d ∈ L) : L.filter (fun x => !(x.tsn != d.tsn)) = [d] := by
  induction L with
  | nil => cases hd
  | cons a L ih =>
    have hn' := List.nodup_cons.1 (show (a.tsn :: L.map (·.tsn)).Nodup from hn)
    rcases List.mem_cons.1 hd with rfl | h
    · have : L.filter (fun x => !(x.tsn != d.tsn)) = [] := by
        rw [List.filter_eq_nil_iff]
        intro x hx hxe
        have : x.tsn = d.tsn := by simpa using hxe
        exact hn'.1 (this ▸ List.mem_map_of_mem hx)
      rw [List.filter_cons, if_pos (by simp), this]
    · have hne : a.tsn ≠ d.tsn := fun e => hn'.1 (e ▸ List.mem_map_of_mem h)
      rw [List.filter_cons, if_neg (by simpa using hne)]
      exact ih hn'.2 h
theorem bytesOf_drop {L : List Pc} (hn : (L.map (·.tsn)).Nodup) {d : Pc} (hd : d ∈ L) : bytesOf (L.filter fun x => x.tsn != d.tsn) = bytesOf L - d.bytes.length := by
  have := bytesOf_split (fun x => x.tsn != d.tsn) L
  rw [filter_one hn hd, bytesOf_cons] at this
  simp only [bytesOf, List.map_nil, List.sum_nil] at this ⊢
  omega
theorem bytesOf_mem {L : List Pc} {d : Pc} (hd : d ∈ L) : (d.bytes.length : Int) ≤ bytesOf L := by
  induction L with
  | nil => cases hd
  | cons a L ih =>
    rw [bytesOf_cons]
    have := bytesOf_nonneg L
    rcases List.mem_cons.1 hd with rfl | h
    · omega
    · have := ih h
      omega
end Go.Proofs.Ytpkbckkminmdmaa.Rs
namespace Go.Proofs.Ytpkbckkminmdmaa.Rs

theorem without_cons (L l : List Pc) (x : Pc) : without L (x :: l) = without (L.filter fun y => y.tsn != x.tsn) l := by
  unfold without
  rw [List.filter_filter]
  refine List.filter_congr (fun y _ => ?_)
  rw [List.any_cons, Bool.not_or, Bool.and_comm]
  congr 1
  rw [bne]
  congr 1
  by_cases h : y.tsn = x.tsn
  · rw [h]
  · rw [beq_eq_false_iff_ne.2 h, beq_eq_false_iff_ne.2 (fun e => h e.symm)]
theorem bytesOf_without : ∀ (l L : List Pc), (L.map (·.tsn)).Nodup → (l.map (·.tsn)).Nodup → (∀ x ∈ l, x ∈ L) → bytesOf (without L l) = bytesOf L - bytesOf l
  | [], L, _, _, _ => by
    have : without L [] = L := by simp [without]
    rw [this]
    simp [bytesOf]
  | x :: l, L, hn, hl, hs => by
    have hl' := List.nodup_cons.1 (show (x.tsn :: l.map (·.tsn)).Nodup from hl)
    rw [without_cons, bytesOf_without l _ ((List.filter_sublist.map _).nodup hn) hl'.2, bytesOf_drop hn (hs x (by simp)), bytesOf_cons]
    · omega
    · intro y hy
      refine List.mem_filter.2 ⟨hs y (by simp [hy]), ?_⟩
      have : y.tsn ≠ x.tsn := fun e => hl'.1 (e ▸ List.mem_map_of_mem hy)
      simpa using this
theorem bytesOf_flat (l : List Pc) : ((l.flatMap (·.bytes)).length : Int) = bytesOf l := by
  induction l with
  | nil => rfl
  | cons p l ih =>
    rw [List.flatMap_cons, List.length_append, bytesOf_cons, ← ih]
    omega
theorem held_ready {s : St} {l : List Pc} (hn : (s.L.map (·.tsn)).Nodup) (hl : (l.map (·.tsn)).Nodup) (hs : ∀ x ∈ l, x ∈ s.L) : held (ready s l) = held s := by
  rw [held_eq, held_eq]
  unfold ready
  simp only
  rw [bytesOf_without l s.L hn hl hs, bytesOfM_append]
  have : bytesOfM [msgOf l] = bytesOf l := by
    rw [← bytesOf_flat]
    simp [bytesOfM, msgOf]
  rw [this]
  omega
/-- What a list of pieces must be. -/
structure Fine (L : List Pc) : Prop where
  keys : (L.map (·.tsn)).Nodup
  rng : ∀ x ∈ L, 0 ≤ x.tsn ∧ x.tsn < 4294967296
  len : L.length < 1000000
theorem Fine.sub {L L' : List Pc} (h : Fine L) (hs : L'.Sublist L) : Fine L' := ⟨(hs.map _).nodup h.keys, fun x hx => h.rng x (hs.mem hx), Nat.lt_of_le_of_lt hs.length_le h.len⟩
theorem nodup_of_run {l : List Pc} {f : Int} (hlen : l.length < 1000000) (h : ∀ i (h : i < l.length), l[i].tsn = (f + i) % 4294967296) : (l.map (·.tsn)).Nodup := by
  rw [List.Nodup, List.pairwise_iff_getElem]
  intro i j hi hj hij
  rw [List.length_map] at hi hj
  rw [List.getElem_map, List.getElem_map, h i hi, h j hj]
  omega
theorem whole_run {L l : List Pc} {d : Pc} (h : Fine L) (hd : d ∈ L) (hw : whole L d = some l) : (∀ x ∈ l, x ∈ L) ∧ (l.map (·.tsn)).Nodup ∧ 0 < l.length := by
  rcases whole_ends h.keys h.rng h.len hd with ⟨h1, _⟩ | ⟨l0, f, z, h1, _, h3, h4, h5, h6, _⟩
  · rw [hw] at h1; cases h1
  · rw [hw] at h1
    injection h1 with h1
    subst h1
    have := h.len
    exact ⟨h3, nodup_of_run (by omega) h6, h4⟩
theorem waiting_some {s s' : St} {stream : Int} (hw : waiting s stream = some s') : ∃ d l, d ∈ s.L ∧ fits d stream (nextOf s stream) = true ∧ whole s.L d = some l ∧ s' = ready s l := by
  unfold waiting ordered at hw
  obtain ⟨l, hl, rfl⟩ := Option.map_eq_some_iff.1 hw
  obtain ⟨d, hd, hdl⟩ := List.exists_of_findSome?_eq_some hl
  by_cases hf : fits d stream (nextOf s stream) = true
  · rw [if_pos hf] at hdl
    exact ⟨d, l, hd, hf, hdl, rfl⟩
  · rw [if_neg hf] at hdl
    cases hdl
theorem waiting_held {s s' : St} {stream : Int} (h : Fine s.L) (hw : waiting s stream = some s') : held s' = held s := by
  obtain ⟨d, l, hd, _, hl, rfl⟩ := waiting_some hw
  obtain ⟨h1, h2, _⟩ := whole_run h hd hl
  exact held_ready h.keys h2 h1
theorem ready_sub (s : St) (l : List Pc) : (ready s l).L.Sublist s.L := List.filter_sublist
theorem waiting_sub {s s' : St} {stream : Int} (hw : waiting s stream = some s') : s'.L.Sublist s.L := by
  obtain ⟨d, l, _, _, _, rfl⟩ := waiting_some hw
  exact ready_sub s l
theorem waiting_next {s s' : St} {stream : Int} (hw : waiting s stream = some s') : s'.next = s.next := by
  obtain ⟨d, l, _, _, _, rfl⟩ := waiting_some hw
  rfl
theorem held_bump (s : St) (stream : Int) : held (bump s stream) = held s := rfl
theorem on_held : ∀ (n : Nat) (s : St) (stream : Int), Fine s.L → held (on stream n s) = held s
  | 0, _, _, _ => rfl
  | n + 1, s, stream, h => by
    unfold on
    cases hw : waiting s stream with
    | none => rfl
    | some s' =>
      show held (on stream n (bump s' stream)) = held s
      rw [on_held n _ _ (show Fine (bump s' stream).L from (show Fine s'.L from h.sub (waiting_sub hw))), held_bump, waiting_held h hw]
theorem onAll_held {s : St} {stream : Int} (h : Fine s.L) : held (onAll s stream) = held s := on_held _ _ _ h
theorem put_held {s : St} {d : Pc} (h : Fine (s.L ++ [d])) : held (put s d).1 = held s + (if (put s d).2 = 0 then (d.bytes.length : Int) else 0) := by
  have h0 : held { s with L := s.L ++ [d] } = held s + d.bytes.length := by
    rw [held_eq, held_eq]
    simp only [bytesOf_append]
    simp [bytesOf]
    omega
  unfold put
  split
  · simp
  · split
    · simp
    · split
      · simp
      · split
        · simp
        · simp only
          split
          · simp only [if_true]
            rw [onAll_held h, h0]
          · cases hw : whole (s.L ++ [d]) d with
            | none => simp only [if_true]; rw [h0]
            | some l =>
              obtain ⟨h1, h2, _⟩ := whole_run h (by simp) hw
              simp only [if_true]
              rw [held_ready h.keys h2 h1, h0]
/-- How far a stream's next is from where it shall come. -/
def way (s : St) (stream to : Int) : Nat := ((inc16 to - nextOf s stream) % 65536).toNat
theorem next_bump {s : St} {stream : Int} (h : stream.toNat < s.next.length) : nextOf (bump s stream) stream = inc16 (nextOf s stream) := by
  unfold bump
  show (s.next.set stream.toNat _).getD stream.toNat 0 = _
  simp [h]
theorem way_bump {s s' : St} {stream to : Int} (h : stream.toNat < s.next.length) (hn : s'.next = s.next) (h0 : 0 ≤ nextOf s stream) (h1 : nextOf s stream < 65536) (_ht0 : 0 ≤ to) (_ht1 : to < 65536) (hne : nextOf s stream ≠ inc16 to) :
    way (bump s' stream) stream to < way s stream to := by
  have e : nextOf s' stream = nextOf s stream := by unfold nextOf; rw [hn]
  unfold way
  rw [next_bump (by rw [hn]; exact h), e]
  unfold inc16 at *
  omega
theorem way_lt (s : St) (stream to : Int) : way s stream to < 65536 := by
  unfold way
  omega
end Go.Proofs.Ytpkbckkminmdmaa.Rs
