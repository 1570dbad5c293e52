/- Plain laws: the bytes that are held. -/
import Derived.Test.YtpkbckkminmdmaaRsPure2
namespace Go.Proofs.Ytpkbckkminmdmaa.Rs

def bytesOf (L : List Pc) : Int := (L.map fun p => (p.bytes.length : Int)).sum
def bytesOfM (L : List Ms) : Int := (L.map fun p => (p.bytes.length : Int)).sum
theorem held_eq (s : St) : held s = bytesOf s.L + bytesOfM s.row := rfl
theorem bytesOf_cons (p : Pc) (L : List Pc) : bytesOf (p :: L) = p.bytes.length + bytesOf L := by simp [bytesOf]
theorem bytesOf_append (L K : List Pc) : bytesOf (L ++ K) = bytesOf L + bytesOf K := by simp [bytesOf]
theorem bytesOfM_append (L K : List Ms) : bytesOfM (L ++ K) = bytesOfM L + bytesOfM K := by simp [bytesOfM]
theorem bytesOf_nonneg : ∀ (L : List Pc), 0 ≤ bytesOf L
  | [] => by simp [bytesOf]
  | p :: L => by rw [bytesOf_cons]; have := bytesOf_nonneg L; omega
theorem bytesOfM_nonneg : ∀ (L : List Ms), 0 ≤ bytesOfM L
  | [] => by simp [bytesOfM]
  | p :: L => by
    have := bytesOfM_nonneg L
    simp only [bytesOfM, List.map_cons, List.sum_cons] at *
    omega
theorem bytesOf_split (f : Pc → Bool) : ∀ (L : List Pc), bytesOf L = bytesOf (L.filter f) + bytesOf (L.filter fun x => !f x)
  | [] => by simp [bytesOf]
  | p :: L => by
    have := bytesOf_split f L
    cases h : f p <;> simp [List.filter_cons, h, bytesOf_cons] <;> omega
theorem filter_one {L : List Pc} (hn : (L.map (·.tsn)).Nodup) {d : Pc} (hd : d ∈ L) : L.filter (fun x => !(x.tsn != d.tsn)) = [d] := by
  induction L with
  | nil => cases hd
  | cons a L ih =>
    have hn' := List.nodup_cons.1 (show (a.tsn :: L.map (·.tsn)).Nodup from hn)
    rcases List.mem_cons.1 hd with rfl | h
    · have : L.filter (fun x => !(x.tsn != d.tsn)) = [] := by
        rw [List.filter_eq_nil_iff]
        intro x hx hxe
        have : x.tsn = d.tsn := by simpa using hxe
        exact hn'.1 (this ▸ List.mem_map_of_mem hx)
      rw [List.filter_cons, if_pos (by simp), this]
    · have hne : a.tsn ≠ d.tsn := fun e => hn'.1 (e ▸ List.mem_map_of_mem h)
      rw [List.filter_cons, if_neg (by simpa using hne)]
      exact ih hn'.2 h
theorem bytesOf_drop {L : List Pc} (hn : (L.map (·.tsn)).Nodup) {d : Pc} (hd : d ∈ L) : bytesOf (L.filter fun x => x.tsn != d.tsn) = bytesOf L - d.bytes.length := by
  have := bytesOf_split (fun x => x.tsn != d.tsn) L
  rw [filter_one hn hd, bytesOf_cons] at this
  simp only [bytesOf, List.map_nil, List.sum_nil] at this ⊢
  omega
theorem bytesOf_mem {L : List Pc} {d : Pc} (hd : d ∈ L) : (d.bytes.length : Int) ≤ bytesOf L := by
  induction L with
  | nil => cases hd
  | cons a L ih =>
    rw [bytesOf_cons]
    have := bytesOf_nonneg L
    rcases List.mem_cons.1 hd with rfl | h
    · omega
    · have := ih h
      omega
end Go.Proofs.Ytpkbckkminmdmaa.Rs
