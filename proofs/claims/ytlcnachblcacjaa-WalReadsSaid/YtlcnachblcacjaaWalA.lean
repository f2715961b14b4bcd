/-
  A log's bytes, read: what both programs compute.
-/
import Derived.Test.YtlcnachblcacjaaCodD
import Derived.Test.YtlcnachblcacjaaCodE
namespace Go.Proofs.Ytlcnachblcacjaa

def hdN (r : Bool) : Nat := if r then 11 else 7
def badI (r : Bool) : Int := if r then 1 else 3
def endI (g : Bool) : Int := if g then 1 else 0
def zeroL (l : List UInt8) : Bool := l.all (· == 0)
def sumL (l : List UInt8) : Nat := 4294967295 - crcL l 4294967295
def byN (l : List UInt8) (i : Nat) : Nat := (l[i]?.getD 0).toNat
theorem byN_lt (l : List UInt8) (i : Nat) : byN l i < 256 := (l[i]?.getD 0).toNat_lt
theorem byN_at {l : List UInt8} {i : Nat} (h : i < l.length) : (l[i]'h).toNat = byN l i := by unfold byN; simp [h]
inductive Nx where
  | stop (how : Int)
  | frag (typ : Int) (body : List UInt8) (at' : Nat)
def typL (l : List UInt8) (r : Bool) : Int := (byN l 6 : Int) - (if r then 4 else 0)
/-- a fragment that is there whole -/
def fragB (l : List UInt8) (log : Int) (r g : Bool) (at_ : Nat) : Nx :=
  if maskI (sumL (l.drop 6)) ≠ unB (l.take 4) ∨ typL l r < 1 ∨ 4 < typL l r then .stop (badI r)
  else if r = true ∧ (unB ((l.drop 7).take 4) : Int) ≠ log then .stop 2
  else if decide (typL l r = 1 ∨ typL l r = 2) = g then .stop (badI r)
  else .frag (typL l r) (l.drop (hdN r)) (at_ + l.length)
def sizeB (rest : List UInt8) (r : Bool) : Nat := hdN r + byN rest 4 + 256 * byN rest 5
/-- what stands at a place, with so much room -/
def atB (rest : List UInt8) (room : Nat) (log : Int) (r g : Bool) (at_ : Nat) : Nx :=
  if zeroL rest = true then .stop (endI g)
  else if rest.length < hdN r then .stop 1
  else if room < sizeB rest r then .stop (badI r)
  else if rest.length < sizeB rest r then .stop 1
  else fragB (rest.take (sizeB rest r)) log r g at_
def roomN (at_ : Nat) : Nat := 4096 - at_ % 4096
def nextB (l : List UInt8) (log : Int) (r : Bool) (at_ : Nat) (g : Bool) : Nx :=
  if roomN at_ < hdN r then
    if roomN at_ ≤ (l.drop at_).length then atB (l.drop (at_ + roomN at_)) 4096 log r g (at_ + roomN at_)
    else if zeroL (l.drop at_) = true then .stop (endI g) else .stop 1
  else atB (l.drop at_) (roomN at_) log r g at_
theorem hdN_bd (r : Bool) : 7 ≤ hdN r ∧ hdN r ≤ 11 := by cases r <;> decide
theorem roomN_bd (a : Nat) : 1 ≤ roomN a ∧ roomN a ≤ 4096 := by unfold roomN; omega
theorem roomN_skip (a : Nat) : roomN (a + roomN a) = 4096 := by unfold roomN; omega
theorem zeroL_nil : zeroL [] = true := rfl
/-- the document skips the room's end in a round of its own -/
theorem nextB_skip {l : List UInt8} {log : Int} {r g : Bool} {a : Nat} (h : roomN a < hdN r) (h2 : roomN a ≤ (l.drop a).length) : nextB l log r a g = nextB l log r (a + roomN a) g := by
  have hh := hdN_bd r
  conv => lhs; unfold nextB
  rw [if_pos h, if_pos h2]
  unfold nextB
  rw [roomN_skip, if_neg (by omega)]
theorem nextB_here {l : List UInt8} {log : Int} {r g : Bool} {a : Nat} (h : ¬ roomN a < hdN r) : nextB l log r a g = atB (l.drop a) (roomN a) log r g a := by unfold nextB; rw [if_neg h]
theorem fragB_frag {l : List UInt8} {log : Int} {r g : Bool} {a : Nat} {typ : Int} {body : List UInt8} {at' : Nat} (h : fragB l log r g a = .frag typ body at') :
    at' = a + l.length ∧ body = l.drop (hdN r) ∧ 1 ≤ typ ∧ typ ≤ 4 := by
  unfold fragB at h
  split at h
  · cases h
  · rename_i h1
    split at h
    · cases h
    · split at h
      · cases h
      · injection h with e1 e2 e3
        refine ⟨e3.symm, e2.symm, ?_, ?_⟩ <;> omega
theorem atB_frag {rest : List UInt8} {room : Nat} {log : Int} {r g : Bool} {a : Nat} {typ : Int} {body : List UInt8} {at' : Nat} (h : atB rest room log r g a = .frag typ body at') :
    a + 7 ≤ at' ∧ at' ≤ a + rest.length ∧ body.length + 7 ≤ at' - a ∧ at' ≤ a + room ∧ 1 ≤ typ ∧ typ ≤ 4 := by
  have hh := hdN_bd r
  unfold atB at h
  split at h
  · cases h
  · split at h
    · cases h
    · split at h
      · cases h
      · split at h
        · cases h
        · rename_i h1 h2 h3 h4
          obtain ⟨e1, e2, e3, e4⟩ := fragB_frag h
          have hl : (rest.take (sizeB rest r)).length = sizeB rest r := by rw [List.length_take]; omega
          have hs : hdN r ≤ sizeB rest r := by unfold sizeB; omega
          have hb : body.length = sizeB rest r - hdN r := by rw [e2, List.length_drop, hl]
          omega
theorem nextB_frag {l : List UInt8} {log : Int} {r g : Bool} {a : Nat} (ha : a ≤ l.length) {typ : Int} {body : List UInt8} {at' : Nat} (h : nextB l log r a g = .frag typ body at') :
    a + 7 ≤ at' ∧ at' ≤ l.length ∧ body.length + 7 ≤ at' - a ∧ 1 ≤ typ ∧ typ ≤ 4 := by
  unfold nextB at h
  split at h
  · split at h
    · rename_i h1 h2
      obtain ⟨e1, e2, e3, -, e4, e5⟩ := atB_frag h
      rw [List.length_drop] at h2 e2
      omega
    · split at h <;> cases h
  · obtain ⟨e1, e2, e3, -, e4, e5⟩ := atB_frag h
    rw [List.length_drop] at e2
    omega
theorem fragB_stop {l : List UInt8} {log : Int} {r g : Bool} {a : Nat} {how : Int} (h : fragB l log r g a = .stop how) : 0 ≤ how ∧ how ≤ 3 := by
  have hb : 0 ≤ badI r ∧ badI r ≤ 3 := by cases r <;> decide
  unfold fragB at h
  split at h
  · injection h with h; omega
  · split at h
    · injection h with h; omega
    · split at h
      · injection h with h; omega
      · cases h
theorem atB_stop {rest : List UInt8} {room : Nat} {log : Int} {r g : Bool} {a : Nat} {how : Int} (h : atB rest room log r g a = .stop how) : 0 ≤ how ∧ how ≤ 3 := by
  have hb : 0 ≤ badI r ∧ badI r ≤ 3 := by cases r <;> decide
  have he : 0 ≤ endI g ∧ endI g ≤ 3 := by cases g <;> decide
  unfold atB at h
  split at h
  · injection h with h; omega
  · split at h
    · injection h with h; omega
    · split at h
      · injection h with h; omega
      · split at h
        · injection h with h; omega
        · exact fragB_stop h
theorem nextB_stop {l : List UInt8} {log : Int} {r g : Bool} {a : Nat} {how : Int} (h : nextB l log r a g = .stop how) : 0 ≤ how ∧ how ≤ 3 := by
  have he : 0 ≤ endI g ∧ endI g ≤ 3 := by cases g <;> decide
  unfold nextB at h
  split at h
  · split at h
    · exact atB_stop h
    · split at h <;> (injection h with h; omega)
  · exact atB_stop h
theorem atB_at {rest : List UInt8} {room : Nat} {log : Int} {r g : Bool} {a : Nat} {typ : Int} {body : List UInt8} {at' : Nat} (h : atB rest room log r g a = .frag typ body at') : at' = a + hdN r + body.length := by
  unfold atB at h
  split at h
  · cases h
  · split at h
    · cases h
    · split at h
      · cases h
      · split at h
        · cases h
        · obtain ⟨e1, e2, e3, e4⟩ := fragB_frag h
          have hl : (rest.take (sizeB rest r)).length = sizeB rest r := by rw [List.length_take]; omega
          have hs : hdN r ≤ sizeB rest r := by unfold sizeB; omega
          have hb : body.length = sizeB rest r - hdN r := by rw [e2, List.length_drop, hl]
          omega
theorem nextB_end {l : List UInt8} {log : Int} {r g : Bool} {a : Nat} (h : roomN a < hdN r) (hl : (l.drop a).length ≤ roomN a) (hz : zeroL (l.drop a) = true) : nextB l log r a g = .stop (endI g) := by
  unfold nextB
  rw [if_pos h]
  split
  · have : l.drop (a + roomN a) = [] := List.drop_eq_nil_of_le (by rw [List.length_drop] at hl; omega)
    rw [this]
    unfold atB
    rw [if_pos zeroL_nil]
  · first | rfl | rw [if_pos hz]
theorem nextB_torn {l : List UInt8} {log : Int} {r g : Bool} {a : Nat} (h : roomN a < hdN r) (hl : (l.drop a).length < roomN a) (hz : zeroL (l.drop a) = false) : nextB l log r a g = .stop 1 := by
  unfold nextB
  rw [if_pos h, if_neg (by omega), if_neg (by simp [hz])]
structure Ws where
  pos : Nat
  g : Bool
  now : List UInt8
  out : List (List UInt8)
  place : Nat
def adv (s : Ws) (typ : Int) (body : List UInt8) (at' : Nat) : Ws :=
  if typ = 2 ∨ typ = 3 then ⟨at', true, s.now ++ body, s.out, s.place⟩ else ⟨at', false, [], s.out ++ [s.now ++ body], at'⟩
def run (l : List UInt8) (log : Int) (r : Bool) : Nat → Ws → (List (List UInt8) × Int × Nat)
  | 0, s => (s.out, 0, s.place)
  | f + 1, s => match nextB l log r s.pos s.g with
    | .stop how => (s.out, how, s.place)
    | .frag typ body at' => run l log r f (adv s typ body at')
def recB (l : List UInt8) : Bool := decide (7 ≤ l.length) && decide (5 ≤ byN l 6) && decide (byN l 6 ≤ 8)
def readR (l : List UInt8) (log : Int) : List (List UInt8) × Int × Nat :=
  if 1073741824 < l.length then ([], 3, 0) else run l log (recB l) (l.length + 1) ⟨0, false, [], [], 0⟩
theorem run_stop {l : List UInt8} {log : Int} {r : Bool} {f : Nat} {s : Ws} {how : Int} (h : nextB l log r s.pos s.g = .stop how) : run l log r (f + 1) s = (s.out, how, s.place) := by
  rw [run, h]
theorem run_frag {l : List UInt8} {log : Int} {r : Bool} {f : Nat} {s : Ws} {typ : Int} {body : List UInt8} {at' : Nat} (h : nextB l log r s.pos s.g = .frag typ body at') : run l log r (f + 1) s = run l log r f (adv s typ body at') := by
  rw [run, h]
theorem run_skip {l : List UInt8} {log : Int} {r : Bool} {f : Nat} {s : Ws} (h : roomN s.pos < hdN r) (h2 : roomN s.pos ≤ (l.drop s.pos).length) : run l log r f s = run l log r f { s with pos := s.pos + roomN s.pos } := by
  cases f with
  | zero => rfl
  | succ f =>
    rw [run, run, nextB_skip h h2]
    show (match nextB l log r (s.pos + roomN s.pos) s.g with | Nx.stop how => _ | Nx.frag typ body at' => _) = _
    cases nextB l log r (s.pos + roomN s.pos) s.g <;> rfl
/-- what holds of every state -/
def Wok (l : List UInt8) (s : Ws) : Prop := s.pos ≤ l.length ∧ s.now.length + (s.out.map List.length).sum + s.out.length ≤ s.pos ∧ s.place ≤ s.pos
theorem Wok.adv {l : List UInt8} {s : Ws} (h : Wok l s) {log : Int} {r : Bool} {typ : Int} {body : List UInt8} {at' : Nat} (hn : nextB l log r s.pos s.g = .frag typ body at') : Wok l (adv s typ body at') ∧ s.pos + 7 ≤ at' ∧ at' ≤ l.length := by
  obtain ⟨h1, h2, h3⟩ := h
  obtain ⟨e1, e2, e3, -, -⟩ := nextB_frag h1 hn
  refine ⟨?_, e1, e2⟩
  unfold Go.Proofs.Ytlcnachblcacjaa.adv
  split
  · refine ⟨e2, ?_, by show s.place ≤ at'; omega⟩
    show (s.now ++ body).length + (s.out.map List.length).sum + s.out.length ≤ at'
    rw [List.length_append]; omega
  · refine ⟨e2, ?_, Nat.le_refl _⟩
    show ([] : List UInt8).length + ((s.out ++ [s.now ++ body]).map List.length).sum + (s.out ++ [s.now ++ body]).length ≤ at'
    simp only [List.map_append, List.sum_append, List.map_cons, List.map_nil, List.sum_cons, List.sum_nil, List.length_append, List.length_cons, List.length_nil]
    omega
end Go.Proofs.Ytlcnachblcacjaa
