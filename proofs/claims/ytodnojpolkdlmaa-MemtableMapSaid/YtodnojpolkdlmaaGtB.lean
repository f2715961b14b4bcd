/-
  With numbers that rise, Get of the last one is a map's: plain.
-/
import Derived.Test.YtodnojpolkdlmaaGtA
namespace Go.Proofs.Ytodnojpolkdlmaa
set_option linter.unusedSimpArgs false
set_option linter.unusedVariables false
open Go.RowKit Go.IntWalk

/-- what a map holds at a key -/
structure Mp where
  v : ByteArray
  there : Bool
def stepM (how : Int) (key : ByteArray) (m : Mp) (r : Rc) : Mp :=
  if r.k = 1 then (if r.key = key then ⟨r.v, true⟩ else m)
  else if r.k = 0 then ⟨m.v, m.there && decide (r.key ≠ key)⟩
  else if r.k = 2 then ⟨m.v, m.there && !(decide (cmpH how r.key key ≤ 0 ∧ cmpH how key r.v < 0))⟩
  else m
def mapM (how : Int) (key : ByteArray) (l : List Rc) : Mp := l.foldl (stepM how key) ⟨⟨#[]⟩, false⟩
def AgreeM (m : Mp) (g : ByteArray × Int × Bool) : Prop := (m.there = true ↔ g.2.2 = true ∧ g.2.1 = 1) ∧ (m.there = true → m.v = g.1)
/-- all numbers lie below n -/
structure Low (n : Int) (S : TS) : Prop where
  l : ∀ e ∈ S.l, e.k.s < n
  t : ∀ x ∈ S.t, x.s < n
theorem nodeS_ins {how : Int} {l : List E} {x : E} {key : ByteArray} {seq : Int} (hl : ∀ e ∈ l, e.k.s < x.k.s) (hq : x.k.s ≤ seq) :
    nodeS (insE l (posE how l x.k) x) key seq = if x.k.u = key then some x else nodeS l key seq := by
  unfold nodeS insE
  have h1 := posE_take how x.k l
  have hap := List.take_append_drop (posE how l x.k) l
  by_cases h : x.k.u = key
  · rw [if_pos h]
    rw [find_skip, List.find?_cons]
    · have : sees key seq x = true := by unfold sees; rw [decide_eq_true_iff]; exact ⟨h, hq⟩
      rw [this]
    · intro y hy
      have h2 := h1 y hy
      have h3 := hl y (List.mem_of_mem_take hy)
      unfold sees
      rw [decide_eq_false_iff_not]
      rintro ⟨h4, _⟩
      rcases ordK_cases how y.k x.k with ⟨_, h5⟩ | ⟨h5, _⟩ | ⟨h5, _⟩
      · rcases h5 with h5 | ⟨_, h5 | h5⟩
        · rw [h4, h, cmpH_refl] at h5; omega
        · omega
        · omega
      · omega
      · omega
  · rw [if_neg h]
    have hx : sees key seq x = false := by unfold sees; rw [decide_eq_false_iff_not]; exact fun h2 => h h2.1
    rw [List.find?_append, List.find?_cons, hx]
    have e := congrArg (fun z => z.find? (sees key seq)) hap
    simp only [List.find?_append] at e
    exact e
theorem any_insL {l : List Tb} {i : Nat} {x : Tb} (p : Tb → Bool) : (insL l i x).any p = (p x || l.any p) := by
  unfold insL
  have e := congrArg (fun z => z.any p) (List.take_append_drop i l)
  simp only [List.any_append] at e
  rw [List.any_append, List.any_cons, ← e]
  cases p x <;> simp
theorem mem_insE {l : List E} {i : Nat} {x e : E} (h : e ∈ insE l i x) : e = x ∨ e ∈ l := by
  unfold insE at h
  rcases List.mem_append.1 h with h | h
  · exact .inr (List.mem_of_mem_take h)
  · rcases List.mem_cons.1 h with h | h
    · exact .inl h
    · exact .inr (List.mem_of_mem_drop h)
theorem mem_insL {l : List Tb} {i : Nat} {x e : Tb} (h : e ∈ insL l i x) : e = x ∨ e ∈ l := by
  unfold insL at h
  rcases List.mem_append.1 h with h | h
  · exact .inr (List.mem_of_mem_take h)
  · rcases List.mem_cons.1 h with h | h
    · exact .inl h
    · exact .inr (List.mem_of_mem_drop h)
theorem Low.mono {n m : Int} {S : TS} (h : Low n S) (hnm : n ≤ m) : Low m S := ⟨fun e he => by have := h.l e he; omega, fun e he => by have := h.t e he; omega⟩
theorem Low.add {how n seq : Int} {S : TS} {r : Rc} (h : Low n S) (hn : n ≤ seq) : Low (seq + 1) (addS how S seq r).1 := by
  have h0 := h.mono (m := seq + 1) (by omega)
  unfold addS
  split
  · exact h0
  split
  · exact h0
  split
  · exact h0
  split
  · dsimp only
    split
    · exact h0
    · refine ⟨h0.l, fun x hx => ?_⟩
      rcases mem_insL hx with rfl | hx
      · show seq < seq + 1; omega
      · exact h0.t x hx
  · dsimp only
    split
    · exact h0
    · refine ⟨fun x hx => ?_, h0.t⟩
      rcases mem_insE hx with rfl | hx
      · show seq < seq + 1; omega
      · exact h0.l x hx
theorem any_old {how n seq q : Int} {t : List Tb} {key : ByteArray} {x : E} (ht : ∀ y ∈ t, y.s < n) (hx : n ≤ x.k.s) : t.any (overT how key q (some x)) = false := by
  rw [List.any_eq_false]
  intro y hy
  have := ht y hy
  unfold overT newer
  have h2 : decide (x.k.s < y.s) = false := by simp; omega
  simp [h2]
/-- one record more -/
theorem agree_step {how n seq mx : Int} {S : TS} {r : Rc} {key : ByteArray} {m : Mp} (hl : Low n S) (hn : n ≤ seq) (hmx : seq ≤ mx) (hok : (addS how S seq r).2 = 0) (ha : AgreeM m (getS how S key mx)) :
    AgreeM (stepM how key m r) (getS how (addS how S seq r).1 key mx) := by
  have hk : chkR r = 0 := by
    unfold addS at hok
    split at hok
    · cases hok
    split at hok
    · exact hok
    · rename_i h; simpa using h
  have hc := (chkR_zero hk).1
  unfold addS at hok ⊢
  split at hok
  · cases hok
  rename_i h1
  rw [if_neg h1]
  rw [if_neg (by simpa using hk : ¬ chkR r ≠ 0)] at hok ⊢
  split at hok
  · cases hok
  rename_i h3
  rw [if_neg h3]
  by_cases h4 : r.k = 2
  · rw [if_pos h4] at hok ⊢
    dsimp only at hok ⊢
    split at hok
    · cases hok
    rename_i h5
    rw [if_neg h5]
    have hst : stepM how key m r = ⟨m.v, m.there && !(decide (cmpH how r.key key ≤ 0 ∧ cmpH how key r.v < 0))⟩ := by
      unfold stepM; rw [if_neg (by omega), if_neg (by omega), if_pos h4]
    rw [hst]
    unfold getS
    rw [(fin_l _ _ _ _).1, (fin_l _ _ _ _).2]
    dsimp only
    unfold getS at ha
    have hnew : newer (nodeS S.l key mx) ⟨r.key, r.v, seq⟩ = true := by
      unfold newer
      cases hnd : nodeS S.l key mx with
      | none => rfl
      | some e =>
        have := hl.l e (List.mem_of_find?_eq_some hnd)
        simp; omega
    have hov : overT how key mx (nodeS S.l key mx) ⟨r.key, r.v, seq⟩ = decide (cmpH how r.key key ≤ 0 ∧ cmpH how key r.v < 0) := by
      unfold overT overB
      rw [hnew, decide_eq_true hmx]; simp
    unfold getN at ha ⊢
    rw [any_insL, hov]
    by_cases hd : cmpH how r.key key ≤ 0 ∧ cmpH how key r.v < 0
    · rw [decide_eq_true hd]
      simp only [Bool.true_or, if_true, Bool.not_true, Bool.and_false]
      exact ⟨⟨fun h => (by cases h), fun h => (by have := h.2; simp at this)⟩, fun h => (by cases h)⟩
    · rw [decide_eq_false hd]
      simp only [Bool.false_or, Bool.not_false, Bool.and_true]
      exact ha
  · rw [if_neg h4] at hok ⊢
    dsimp only at hok ⊢
    split at hok
    · cases hok
    rename_i h5
    rw [if_neg h5]
    unfold getS
    rw [(fin_l _ _ _ _).1, (fin_l _ _ _ _).2]
    dsimp only
    have hnd := nodeS_ins (how := how) (l := S.l) (x := ⟨⟨r.key, seq, r.k⟩, plainV r⟩) (key := key) (seq := mx) (fun e he => by have := hl.l e he; show e.k.s < seq; omega) hmx
    dsimp only at hnd
    rw [hnd]
    by_cases hkey : r.key = key
    · rw [if_pos hkey]
      unfold getN
      rw [any_old (n := n) (seq := seq) hl.t hn]
      simp only [Bool.false_eq_true, if_false]
      by_cases h0 : r.k = 1
      · have hst : stepM how key m r = ⟨r.v, true⟩ := by unfold stepM; rw [if_pos h0, if_pos hkey]
        rw [hst]
        have hp : plainV r = r.v := by unfold plainV; rw [if_neg (by omega)]
        exact ⟨⟨fun _ => ⟨rfl, h0⟩, fun _ => rfl⟩, fun _ => hp.symm⟩
      · have hst : stepM how key m r = ⟨m.v, m.there && decide (r.key ≠ key)⟩ := by unfold stepM; rw [if_neg h0, if_pos (by omega)]
        rw [hst]
        have hf : decide (r.key ≠ key) = false := by simpa using hkey
        rw [hf, Bool.and_false]
        exact ⟨⟨fun h => (by cases h), fun h => absurd h.2 h0⟩, fun h => (by cases h)⟩
    · rw [if_neg hkey]
      have hst : stepM how key m r = m := by
        unfold stepM
        by_cases h0 : r.k = 1
        · rw [if_pos h0, if_neg hkey]
        · rw [if_neg h0, if_pos (by omega), decide_eq_true hkey, Bool.and_true]
      rw [hst]
      exact ha
theorem agree_empty (how mx : Int) (key : ByteArray) : AgreeM (mapM how key []) (getS how emptyS key mx) := ⟨⟨fun h => (by cases h), fun h => (by cases h.1)⟩, fun h => (by cases h)⟩
theorem mapM_snoc (how : Int) (key : ByteArray) (l : List Rc) (r : Rc) : mapM how key (l ++ [r]) = stepM how key (mapM how key l) r := by
  unfold mapM; rw [List.foldl_append]; rfl
end Go.Proofs.Ytodnojpolkdlmaa
