/-
  What a key has for whoever sees up to a number: plain; it does not hang on what comes at greater numbers.
-/
import Derived.Test.YtodnojpolkdlmaaTmJ
namespace Go.Proofs.Ytodnojpolkdlmaa
set_option linter.unusedSimpArgs false
set_option linter.unusedVariables false
open Go.RowKit Go.IntWalk

def sees (key : ByteArray) (seq : Int) (e : E) : Bool := decide (e.k.u = key ∧ e.k.s ≤ seq)
def nodeS (l : List E) (key : ByteArray) (seq : Int) : Option E := l.find? (sees key seq)
def overB (how : Int) (key : ByteArray) (x : Tb) : Bool := decide (cmpH how x.b key ≤ 0 ∧ cmpH how key x.e < 0)
def newer (n : Option E) (x : Tb) : Bool := match n with
  | none => true
  | some e => decide (e.k.s < x.s)
def overT (how : Int) (key : ByteArray) (seq : Int) (n : Option E) (x : Tb) : Bool := overB how key x && (decide (x.s ≤ seq) && newer n x)
def getN (how : Int) (t : List Tb) (key : ByteArray) (seq : Int) (n : Option E) : ByteArray × Int × Bool :=
  if t.any (overT how key seq n) then (⟨#[]⟩, 2, true) else match n with
    | none => (⟨#[]⟩, 0, false)
    | some e => (e.v, e.k.k, true)
def getS (how : Int) (S : TS) (key : ByteArray) (seq : Int) : ByteArray × Int × Bool := getN how S.t key seq (nodeS S.l key seq)
/-- the key from which Get looks on -/
def fromK (key : ByteArray) (seq : Int) : K := ⟨key, seq, 3⟩
theorem ord_from_lt {how : Int} {key : ByteArray} {seq : Int} {e : E} (hk : e.k.k ≤ 2) (h : ordK how e.k (fromK key seq) < 0) : sees key seq e = false := by
  unfold sees
  rw [decide_eq_false_iff_not]
  rintro ⟨h1, h2⟩
  rcases ordK_cases how e.k (fromK key seq) with ⟨_, h3⟩ | ⟨h3, _⟩ | ⟨h3, _⟩
  · rcases h3 with h3 | ⟨_, h3 | h3⟩
    · rw [h1] at h3; have := cmpH_refl how key; unfold fromK at h3; simp only at h3; omega
    · unfold fromK at h3; simp only at h3; omega
    · unfold fromK at h3; simp only at h3; omega
  · omega
  · omega
theorem ord_from_ge {how : Int} {key : ByteArray} {seq : Int} {a e : E} (h : 0 ≤ ordK how a.k (fromK key seq)) (ha : sees key seq a = false) (ho : ordK how a.k e.k < 0) : sees key seq e = false := by
  unfold sees at *
  rw [decide_eq_false_iff_not] at *
  rintro ⟨h1, h2⟩
  apply ha
  have hu : a.k.u = key := by
    rcases ordK_cases how a.k (fromK key seq) with ⟨h3, _⟩ | ⟨_, h3⟩ | ⟨_, h3⟩
    · omega
    · rw [h3]; rfl
    · rcases h3 with h3 | ⟨h3, _⟩
      · exfalso
        unfold fromK at h3
        simp only at h3
        rcases ordK_cases how a.k e.k with ⟨_, h4⟩ | ⟨h4, _⟩ | ⟨h4, _⟩
        · rcases h4 with h4 | ⟨h4, _⟩
          · rw [h1] at h4; omega
          · rw [h4, h1, cmpH_refl] at h3; omega
        · omega
        · omega
      · exact h3
  refine ⟨hu, ?_⟩
  rcases ordK_cases how a.k (fromK key seq) with ⟨h3, _⟩ | ⟨_, h3⟩ | ⟨_, h3⟩
  · omega
  · rw [h3]; exact Int.le_refl _
  · rcases h3 with h3 | ⟨_, h3 | ⟨h3, _⟩⟩
    · unfold fromK at h3; simp only at h3; rw [hu, cmpH_refl] at h3; omega
    · unfold fromK at h3; simp only at h3; omega
    · unfold fromK at h3; simp only at h3; omega
theorem find_none {α : Type} {p : α → Bool} : ∀ {l : List α}, (∀ x ∈ l, p x = false) → l.find? p = none
  | [], _ => rfl
  | x :: l, h => by rw [List.find?_cons, h x (List.mem_cons_self ..)]; exact find_none fun y hy => h y (List.mem_cons_of_mem _ hy)
theorem find_skip {α : Type} {p : α → Bool} {A B : List α} (h : ∀ x ∈ A, p x = false) : (A ++ B).find? p = B.find? p := by
  rw [List.find?_append, find_none h]; rfl
/-- the first entry that is not ahead is the one that is seen, or there is none -/
theorem node_first {how : Int} {l : List E} (hs : SortE how l) (hk : ∀ e ∈ l, e.k.k ≤ 2) (key : ByteArray) (seq : Int) :
    nodeS l key seq = match l.drop (posE how l (fromK key seq)) with
      | [] => none
      | e :: _ => if sees key seq e then some e else none := by
  have h1 := posE_take how (fromK key seq) l
  have h2 := posE_drop how (fromK key seq) l hs
  have h3 : (l.drop (posE how l (fromK key seq))).Pairwise fun a b => ordK how a.k b.k < 0 := List.Pairwise.drop hs
  have h4 : nodeS l key seq = (l.drop (posE how l (fromK key seq))).find? (sees key seq) := by
    unfold nodeS
    have e := List.take_append_drop (posE how l (fromK key seq)) l
    have hf := find_skip (p := sees key seq) (A := l.take (posE how l (fromK key seq))) (B := l.drop (posE how l (fromK key seq)))
      (fun x hx => ord_from_lt (how := how) (hk x (List.mem_of_mem_take hx)) (h1 x hx))
    rw [e] at hf
    exact hf
  rw [h4]
  generalize l.drop (posE how l (fromK key seq)) = D at *
  rcases D with _ | ⟨a, D⟩
  · rfl
  · rw [List.find?_cons]
    cases hc : sees key seq a with
    | true => simp [hc]
    | false =>
      simp only [hc, Bool.false_eq_true, if_false]
      exact find_none fun e he => ord_from_ge (how := how) (h2 a (List.mem_cons_self ..)) hc ((List.pairwise_cons.1 h3).1 e he)
/-- what comes at greater numbers -/
def lowE (n : Int) (l : List E) : List E := l.filter fun e => decide (e.k.s < n)
def lowT (n : Int) (l : List Tb) : List Tb := l.filter fun e => decide (e.s < n)
theorem nodeS_low {n : Int} (l : List E) (key : ByteArray) (seq : Int) (h : seq < n) : nodeS (lowE n l) key seq = nodeS l key seq := by
  unfold nodeS lowE
  rw [List.find?_filter]
  congr 1
  funext e
  unfold sees
  by_cases h1 : e.k.u = key ∧ e.k.s ≤ seq
  · have : e.k.s < n := by omega
    simp [h1, this]
  · simp [h1]
theorem any_low {how n : Int} (t : List Tb) (key : ByteArray) (seq : Int) (nd : Option E) (h : seq < n) : (lowT n t).any (overT how key seq nd) = t.any (overT how key seq nd) := by
  unfold lowT
  rw [List.any_filter]
  congr 1
  funext x
  unfold overT
  by_cases h1 : x.s ≤ seq
  · have : x.s < n := by omega
    simp [h1, this]
  · simp [h1]
theorem getS_low {how n : Int} {S T : TS} (h1 : lowE n S.l = lowE n T.l) (h2 : lowT n S.t = lowT n T.t) (key : ByteArray) (seq : Int) (h : seq < n) : getS how S key seq = getS how T key seq := by
  unfold getS getN
  rw [← nodeS_low S.l key seq h, ← nodeS_low T.l key seq h, h1]
  rw [← any_low S.t key seq _ h, ← any_low T.t key seq _ h, h2]
theorem low_insE {n : Int} {l : List E} {i : Nat} {x : E} (h : n ≤ x.k.s) : lowE n (insE l i x) = lowE n l := by
  unfold lowE insE
  have e := congrArg (List.filter fun e : E => decide (e.k.s < n)) (List.take_append_drop i l)
  rw [List.filter_append] at e
  rw [List.filter_append, List.filter_cons, decide_eq_false (by omega : ¬ x.k.s < n)]
  exact e
theorem low_insL {n : Int} {l : List Tb} {i : Nat} {x : Tb} (h : n ≤ x.s) : lowT n (insL l i x) = lowT n l := by
  unfold lowT insL
  have e := congrArg (List.filter fun e : Tb => decide (e.s < n)) (List.take_append_drop i l)
  rw [List.filter_append] at e
  rw [List.filter_append, List.filter_cons, decide_eq_false (by omega : ¬ x.s < n)]
  exact e
theorem addS_low {how n : Int} (S : TS) (seq : Int) (r : Rc) (h : n ≤ seq) : lowE n (addS how S seq r).1.l = lowE n S.l ∧ lowT n (addS how S seq r).1.t = lowT n S.t := by
  unfold addS
  split
  · exact ⟨rfl, rfl⟩
  split
  · exact ⟨rfl, rfl⟩
  split
  · exact ⟨rfl, rfl⟩
  split
  · dsimp only
    split
    · exact ⟨rfl, rfl⟩
    · exact ⟨rfl, low_insL h⟩
  · dsimp only
    split
    · exact ⟨rfl, rfl⟩
    · exact ⟨low_insE h, rfl⟩
/-- what Add keeps of a table -/
structure TOk (how : Int) (S : TS) : Prop where
  sl : SortE how S.l
  st : SortT how S.t
  k : ∀ e ∈ S.l, 0 ≤ e.k.k ∧ e.k.k ≤ 1
  n : S.n ≤ 8192
theorem chkR_zero {r : Rc} (h : chkR r = 0) : (0 ≤ r.k ∧ r.k ≤ 2) ∧ r.key.size ≤ 1024 := by
  unfold chkR at h
  split at h
  · omega
  · split at h
    · omega
    · omega
theorem fin_l (S : TS) (q : Int) (a b : Nat) : (S.fin q a b).l = S.l ∧ (S.fin q a b).t = S.t := ⟨rfl, rfl⟩
theorem TOk.add {how : Int} {S : TS} (h : TOk how S) (seq : Int) (r : Rc) : TOk how (addS how S seq r).1 := by
  unfold addS
  split
  · exact h
  split
  · exact h
  rename_i h2
  split
  · exact h
  rename_i h3
  have hc := chkR_zero (by simpa using h2)
  have hn : S.n = S.l.length + S.t.length := rfl
  split
  · dsimp only
    split
    · exact h
    · rename_i h4
      refine ⟨h.sl, h.st.ins (by simpa using h4), h.k, ?_⟩
      show S.l.length + (insL S.t _ _).length ≤ 8192
      rw [insL_len _ _ _ (posT_le _ _ _)]; omega
  · rename_i h5
    dsimp only
    split
    · exact h
    · rename_i h4
      refine ⟨SortE.ins (x := ⟨⟨r.key, seq, r.k⟩, plainV r⟩) h.sl (by simpa using h4), h.st, ?_, ?_⟩
      · intro e he
        have he : e ∈ insE S.l (posE how S.l ⟨r.key, seq, r.k⟩) ⟨⟨r.key, seq, r.k⟩, plainV r⟩ := he
        unfold insE at he
        rcases List.mem_append.1 he with he | he
        · exact h.k e (List.mem_of_mem_take he)
        · rcases List.mem_cons.1 he with rfl | he
          · exact ⟨hc.1.1, by show r.k ≤ 1; omega⟩
          · exact h.k e (List.mem_of_mem_drop he)
      · show (insE S.l _ _).length + S.t.length ≤ 8192
        rw [insE_len _ _ _ (posE_le _ _ _)]; omega
def emptyS : TS := ⟨[], [], 0, 0, 0⟩
theorem TOk.empty (how : Int) : TOk how emptyS := ⟨List.Pairwise.nil, List.Pairwise.nil, (fun e he => absurd he (List.not_mem_nil)), by decide⟩
end Go.Proofs.Ytodnojpolkdlmaa
