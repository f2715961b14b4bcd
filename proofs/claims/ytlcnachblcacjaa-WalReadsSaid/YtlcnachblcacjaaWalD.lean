/-
  The program's reader: next.
-/
import Derived.Test.YtlcnachblcacjaaWalC
namespace Go.Proofs.Ytlcnachblcacjaa
set_option linter.unusedSimpArgs false
set_option linter.unusedVariables false
open Go.RowKit Go.IntWalk

theorem NxP.back {w w1 w' : World} {q : Nat} {c0 : Value} {log : Int} {r g : Bool} {n : Nx} {e : Ending} (hg : w.grownBy w1 (some q)) (h : NxP w1 q c0 log r g n e w') : NxP w q c0 log r g n e w' :=
  ⟨grow_then hg h.1 (.inl rfl), h.2⟩
set_option maxHeartbeats 4000000 in
set_option maxRecDepth 100000 in
theorem wNext_core (q bb off cap at_ : Nat) (log : Int) (r g : Bool) (l : List UInt8) (w : World) (hblk : Blk w q 40 (rdC (.slice (some ⟨bb, off, none⟩) l.length cap) log r at_ g)) (hbs : Bs w w.heap.size (some ⟨bb, off, none⟩) l)
    (hl : l.length ≤ 1073741824) (hcap : l.length ≤ cap) (hne : bb ≠ q) (hat : at_ ≤ l.length) (hroom : ¬ roomN at_ < hdN r) :
    Calls Try.prog 11 #[.pointer (some ⟨q, 0, none⟩)] w (NxP w q (.slice (some ⟨bb, off, none⟩) l.length cap) log r g (atB (l.drop at_) (roomN at_) log r g at_)) := by
  have hh := hdN_bd r
  have hrd := roomN_bd at_
  have hre : (4096 : Int) - (at_ : Int) % 4096 = (roomN at_ : Int) := by unfold roomN; omega
  obtain ⟨N, hN⟩ : ∃ N, atB (l.drop at_) (roomN at_) log r g at_ = N := ⟨_, rfl⟩
  rw [hN]
  unfold atB at hN
  have hcut := Rd.cutIf hbs hcap hat
  obtain ⟨o2, ho2⟩ : ∃ o2 : Nat, (if cap = at_ then (some ⟨bb, off, none⟩ : Option Addr) else some ⟨bb, off + at_, none⟩) = some ⟨bb, o2, none⟩ := by
    split
    · exact ⟨_, rfl⟩
    · exact ⟨_, rfl⟩
  rw [ho2] at hcut
  have hdl : (l.drop at_).length = l.length - at_ := List.length_drop
  have c0 := hblk.cell 0
  have c3 := hblk.cell 3
  have c4 := hblk.cell 4
  simp only [rdC, List.getElem?_toArray, List.getElem?_cons_zero, List.getElem?_cons_succ] at c0 c3 c4
  generalize l.drop at_ = rest at *
  generalize roomN at_ = room at *
  have HN := Lib.hid hN
  have HC := Lib.hid hcut
  have HBK := Lib.hid hblk
  have HDL := Lib.hid hdl
  have hrc : rest.length ≤ cap - at_ := by omega
  have hai : (0 : Int) ≤ (at_ : Int) ∧ (at_ : Int) ≤ (l.length : Int) ∧ (l.length : Int) ≤ (cap : Int) := by omega
  clear hN hcut hblk hbs hdl
  go_enter Try.func11, Try.ntmps11
  go_wp2_with fail
  go_quiet (fail)
  have hZ := fun w' h => wZero_any (some ⟨bb, o2, none⟩) (cap - at_) rest w.heap.size w' (by rw [HDL.out]; omega) h
  rw [HDL.out] at hZ
  have HZ := Lib.hid hZ
  clear hZ
  have hb0 := below_drewN (Below.refl w.heap.size w) nq
  have HBK1 := Lib.hid (HBK.out.below hb0 HBK.out.lt)
  have HC1 := Lib.hid (HC.out.keep hb0)
  have HG1 := Lib.hid (grow_below hb0 (some q))
  have HS1 := Lib.hid hb0.size
  generalize w.drewN nq = w1 at *
  clear hb0 c0 c3 c4
  have c1 := HBK1.out.cell 1
  have c2 := HBK1.out.cell 2
  have c3 := HBK1.out.cell 3
  have c4 := HBK1.out.cell 4
  have c5 := HBK1.out.cell 5
  simp only [rdC, List.getElem?_toArray, List.getElem?_cons_zero, List.getElem?_cons_succ] at c1 c2 c3 c4 c5
  go_wp2_with fail
  refine (HZ.out _ HC1.out).mono ?_
  rintro e w2 ⟨rfl, rfl⟩
  clear HZ
  have hn := HN.out
  rcases hz : zeroL rest with _ | _
  · rw [hz, if_neg (by simp)] at hn
    clear hz HN
    by_cases hsh : rest.length < hdN r
    · rw [if_pos hsh] at hn
      subst hn
      have hd : l.length - at_ < hdN r := by rw [← HDL.out]; exact hsh
      go_wp2_with fail
      go_ret3
      exact ⟨HG1.out, rfl⟩
    · rw [if_neg hsh] at hn
      have hd : hdN r ≤ l.length - at_ := by rw [← HDL.out]; omega
      have hx4 := byte_of HC1.out (show 4 < rest.length by omega)
      have hx5 := byte_of HC1.out (show 5 < rest.length by omega)
      rw [byN_at] at hx4 hx5
      have hb4 := byN_lt rest 4
      have hb5 := byN_lt rest 5
      have hsz : sizeB rest r = hdN r + byN rest 4 + 256 * byN rest 5 := rfl
      generalize byN rest 4 = x4 at *
      generalize byN rest 5 = x5 at *
      have hi4 : (4 : Int) < ((l.length - at_ : Nat) : Int) := by omega
      have hi5 : (5 : Int) < ((l.length - at_ : Nat) : Int) := by omega
      rw [hsz] at hn
      clear hsz
      have HXX := Lib.hid (And.intro hx4 hx5)
      go_wp2_with fail
      go_quiet (fail)
      clear hx4 hx5
      have hb0 := below_drewN (Below.refl w2.heap.size w2) nq
      have HBK2 := Lib.hid (HBK1.out.below hb0 HBK1.out.lt)
      have HC2 := Lib.hid (HC1.out.keep (hb0.mono HS1.out))
      have HG2 := Lib.hid (grow_then HG1.out (grow_below hb0 (some q)) (.inl rfl))
      have HS2 := Lib.hid (Nat.le_trans HS1.out hb0.size)
      generalize w2.drewN nq = w3 at *
      clear hb0 c1 c2 c3 c4 c5
      have c2 := HBK2.out.cell 2
      simp only [rdC, List.getElem?_toArray, List.getElem?_cons_zero, List.getElem?_cons_succ] at c2
      by_cases hr : room < hdN r + x4 + x5 * 256
      · rw [if_pos (by omega)] at hn
        subst hn
        go_wp2_with fail
        refine (wBad_any q r _ c2).mono ?_
        rintro e w4 ⟨rfl, rfl⟩
        go_wp2_with fail
        go_ret3
        exact ⟨HG2.out, rfl⟩
      · rw [if_neg (by omega)] at hn
        by_cases hs : l.length - at_ < hdN r + x4 + x5 * 256
        · rw [if_pos (by rw [HDL.out]; omega)] at hn
          subst hn
          go_wp2_with fail
          go_ret3
          exact ⟨HG2.out, rfl⟩
        · rw [if_neg (by rw [HDL.out]; omega)] at hn
          have htl : (rest.take (hdN r + x4 + 256 * x5)).length = hdN r + x4 + x5 * 256 := by rw [List.length_take, HDL.out]; omega
          have hF := wFrag_any q bb o2 (cap - at_) at_ (.slice (some ⟨bb, off, none⟩) l.length cap) log r g (rest.take (hdN r + x4 + 256 * x5)) w3 HBK2.out (by show Rd _ _ _ ((rest.take (hdN r + x4 + 256 * x5)).map byteV); rw [List.map_take]; exact (HC2.out.more HS2.out).take _) (by omega) (by omega) (by omega) hne (by omega)
          rw [htl, hn] at hF
          have HF := Lib.hid hF
          clear hF htl hn
          go_wp2_with fail
          refine HF.out.mono ?_
          intro e w4 hP
          obtain ⟨hg, hm⟩ := hP
          cases N with
          | stop how =>
            dsimp only at hm
            subst hm
            go_wp2_with fail
            go_ret3
            exact ⟨grow_then HG2.out hg (.inl rfl), rfl⟩
          | frag typ body at' =>
            obtain ⟨A, c, rfl, hA, hB⟩ := hm
            have HA := Lib.hid hA
            have HB := Lib.hid hB
            clear hA hB
            go_wp2_with fail
            go_ret3
            exact ⟨grow_then HG2.out hg (.inl rfl), A, c, rfl, HA.out, HB.out⟩
  · rw [hz, if_pos rfl] at hn
    subst hn
    clear hz HN
    go_wp2_with fail
    refine (wEnd_any q g _ c5).mono ?_
    rintro e w3 ⟨rfl, rfl⟩
    go_wp2_with fail
    go_ret3
    exact ⟨HG1.out, rfl⟩
set_option maxHeartbeats 4000000 in
set_option maxRecDepth 100000 in
theorem wNext_any (q bb off cap at_ : Nat) (log : Int) (r g : Bool) (l : List UInt8) (w : World) (hblk : Blk w q 40 (rdC (.slice (some ⟨bb, off, none⟩) l.length cap) log r at_ g)) (hbs : Bs w w.heap.size (some ⟨bb, off, none⟩) l)
    (hl : l.length ≤ 1073741824) (hcap : l.length ≤ cap) (hne : bb ≠ q) (hat : at_ ≤ l.length) :
    Calls Try.prog 11 #[.pointer (some ⟨q, 0, none⟩)] w (NxP w q (.slice (some ⟨bb, off, none⟩) l.length cap) log r g (nextB l log r at_ g)) := by
  by_cases hroom : roomN at_ < hdN r
  case neg => rw [nextB_here hroom]; exact wNext_core q bb off cap at_ log r g l w hblk hbs hl hcap hne hat hroom
  have hh := hdN_bd r
  have hrd := roomN_bd at_
  have hre : (4096 : Int) - (at_ : Int) % 4096 = (roomN at_ : Int) := by unfold roomN; omega
  obtain ⟨N, hN⟩ : ∃ N, nextB l log r at_ g = N := ⟨_, rfl⟩
  rw [hN]
  unfold nextB at hN
  rw [if_pos hroom] at hN
  have hskip := roomN_skip at_
  have hI := fun hh w' h1 h2 => wNext_core q bb off cap (at_ + roomN at_) log r g l w' h1 h2 hl hcap hne hh (by rw [hskip]; omega)
  rw [hskip] at hI
  have HI := Lib.hid hI
  clear hI hskip
  have hcut := Rd.cutIf hbs hcap hat
  obtain ⟨o2, ho2⟩ : ∃ o2 : Nat, (if cap = at_ then (some ⟨bb, off, none⟩ : Option Addr) else some ⟨bb, off + at_, none⟩) = some ⟨bb, o2, none⟩ := by
    split
    · exact ⟨_, rfl⟩
    · exact ⟨_, rfl⟩
  rw [ho2] at hcut
  have hdl : (l.drop at_).length = l.length - at_ := List.length_drop
  have c0 := hblk.cell 0
  have c3 := hblk.cell 3
  have c4 := hblk.cell 4
  simp only [rdC, List.getElem?_toArray, List.getElem?_cons_zero, List.getElem?_cons_succ] at c0 c3 c4
  generalize l.drop at_ = rest at *
  generalize roomN at_ = room at *
  have HN := Lib.hid hN
  have HC := Lib.hid hcut
  have HBS := Lib.hid hbs
  have hroom' : room < hdN r := hroom
  have HBK := Lib.hid hblk
  have HDL := Lib.hid hdl
  have hrc : rest.length ≤ cap - at_ := by omega
  have hai : (0 : Int) ≤ (at_ : Int) ∧ (at_ : Int) ≤ (l.length : Int) ∧ (l.length : Int) ≤ (cap : Int) := by omega
  clear hN hcut hblk hbs hdl
  go_enter Try.func11, Try.ntmps11
  go_wp2_with fail
  go_quiet (fail)
  have hZ := fun w' h => wZero_any (some ⟨bb, o2, none⟩) (cap - at_) rest w.heap.size w' (by rw [HDL.out]; omega) h
  rw [HDL.out] at hZ
  have HZ := Lib.hid hZ
  clear hZ
  have hb0 := below_drewN (Below.refl w.heap.size w) nq
  have HBK1 := Lib.hid (HBK.out.below hb0 HBK.out.lt)
  have HC1 := Lib.hid (HC.out.keep hb0)
  have HBS1 := Lib.hid (HBS.out.next hb0)
  have HG1 := Lib.hid (grow_below hb0 (some q))
  have HS1 := Lib.hid hb0.size
  generalize w.drewN nq = w1 at *
  clear hb0 c0 c3 c4 HBS
  have c1 := HBK1.out.cell 1
  have c2 := HBK1.out.cell 2
  have c3 := HBK1.out.cell 3
  have c4 := HBK1.out.cell 4
  have c5 := HBK1.out.cell 5
  simp only [rdC, List.getElem?_toArray, List.getElem?_cons_zero, List.getElem?_cons_succ] at c1 c2 c3 c4 c5
  have f4 := HBK1.out.frozen 4
  have hn := HN.out
  by_cases hlong : room ≤ l.length - at_
  · rw [if_pos (by rw [HDL.out]; exact hlong)] at hn
    clear HZ
    have HBK2 := Lib.hid (HBK1.out.set_ 4 (.int .i64 ((at_ : Int) + (room : Int))))
    have HG2 := Lib.hid (grow_then HG1.out (grow_set q 4 (.int .i64 ((at_ : Int) + (room : Int)))) (.inl rfl))
    have hBS2 := HBS1.out.far (p := ⟨q, 4, none⟩) (fun a ha => by injection ha with ha; rw [← ha]; exact hne) (.int .i64 ((at_ : Int) + (room : Int)))
    go_wp2_with fail
    have hsz : (w1.setCell ⟨q, 4, none⟩ (.int .i64 ((at_ : Int) + (room : Int)))).heap.size = w1.heap.size := by simp
    generalize World.setCell w1 _ _ = w2 at *
    refine (HI.out (by omega) w2 (by simpa [rdC] using HBK2.out) (hBS2.more (Nat.le_of_eq hsz.symm))).mono ?_
    rw [hn]
    intro e w4 hP
    obtain ⟨hg, hm⟩ := hP
    cases N with
    | stop how =>
      dsimp only at hm
      subst hm
      go_wp2_with fail
      go_ret3
      exact ⟨grow_then HG2.out hg (.inl rfl), rfl⟩
    | frag typ body at' =>
      obtain ⟨A, c, rfl, hA, hB⟩ := hm
      have HA := Lib.hid hA
      have HB := Lib.hid hB
      clear hA hB
      go_wp2_with fail
      go_ret3
      exact ⟨grow_then HG2.out hg (.inl rfl), A, c, rfl, HA.out, HB.out⟩
  · rw [if_neg (by rw [HDL.out]; exact hlong)] at hn
    go_wp2_with fail
    refine (HZ.out _ HC1.out).mono ?_
    rintro e w2 ⟨rfl, rfl⟩
    clear HZ
    rcases hz : zeroL rest with _ | _
    · rw [hz, if_neg (by simp)] at hn
      subst hn
      clear hz HN
      go_wp2_with fail
      go_ret3
      exact ⟨HG1.out, rfl⟩
    · rw [hz, if_pos rfl] at hn
      subst hn
      clear hz HN
      go_wp2_with fail
      refine (wEnd_any q g _ c5).mono ?_
      rintro e w3 ⟨rfl, rfl⟩
      go_wp2_with fail
      go_ret3
      exact ⟨HG1.out, rfl⟩
end Go.Proofs.Ytlcnachblcacjaa
