/- What the layers compute, in plain Lean, and laws about that. Each under the conditions that its own statement names. -/
import Derived.Test.YtcnhcckbdmjdiaaGreatDoorSpecS2
set_option linter.all false
set_option linter.unusedSimpArgs false
set_option linter.unusedVariables false
namespace Go.Stet
open Go Go.Eng
structure InvX (D : Dsk) (S : Sto) (n g : Int) : Prop where
  nn : D.n = n
  pend : D.pend = []
  is : D.is = false
  g0 : S.g0 ≤ g
  g1 : S.g1 ≤ g
  h : HInv D.held S n
theorem InvX.new {n : Int} (hn : 4 ≤ n) : InvX (newD n) emptyS n 0 := ⟨rfl, rfl, rfl, Int.le_refl _, Int.le_refl _, hinv_new n hn⟩
theorem InvX.mono {D S n g g'} (h : InvX D S n g) (hg : g ≤ g') : InvX D S n g' := ⟨h.nn, h.pend, h.is, Int.le_trans h.g0 hg, Int.le_trans h.g1 hg, h.h⟩
theorem aftS_g {S : Sto} {l : List File} {g : Int} (h0 : S.g0 ≤ g) (h1 : S.g1 ≤ g) : (aftS S l).g0 ≤ g + 1 ∧ (aftS S l).g1 ≤ g + 1 := by
  unfold aftS putHd
  split <;> dsimp only <;> omega
theorem aftS_files (S : Sto) (l : List File) : (aftS S l).files = l := rfl
theorem com_inv {D : Dsk} {S : Sto} {n g : Int} (h : InvX D S n g) (hn : 4 ≤ n ∧ n ≤ 4096) (hg : g ≤ 999999) (l : List File) :
    InvX (comS D S l).1 (comS D S l).2.1 n (g + 1) ∧ (comS D S l).2.2 = mayD l n ∧ ((comS D S l).2.2 = 0 → (comS D S l).2.1.files = l) ∧ ((comS D S l).2.2 ≠ 0 → (comS D S l).2.1 = S) := by
  have hN := h.nn
  cases hr : rightS l with
  | false =>
    rw [comS_form hr]
    exact ⟨h.mono (by omega), by unfold mayD; rw [if_pos hr], fun e => absurd e (by simp), fun _ => rfl⟩
  | true =>
    by_cases hf : roomS D.n < (filesS l).length
    · rw [comS_full hr hf]
      refine ⟨h.mono (by omega), ?_, fun e => absurd e (by simp), fun _ => rfl⟩
      unfold mayD; rw [if_neg (by simp [hr]), if_pos (by rw [← hN]; exact hf)]
    · rcases com_spec (D := D) (S := S) (l := l) (by rw [hN]; exact h.h) (by rw [hN]; exact hn) h.pend ⟨Int.le_trans h.g0 hg, Int.le_trans h.g1 hg⟩ hr hf with ⟨D', e, e1, e2, e3, e4⟩ | ⟨e, _⟩
      · rw [e]
        have hg' := aftS_g (S := S) (l := l) h.g0 h.g1
        refine ⟨⟨e1.trans hN, e2, e3.trans h.is, hg'.1, hg'.2, by rw [hN] at e4; exact e4⟩, ?_, fun _ => rfl, fun hh => absurd rfl hh⟩
        unfold mayD; rw [if_neg (by simp [hr]), if_neg (by rw [← hN]; exact hf)]
      · rw [h.is] at e; cases e
theorem InvX.opens {D : Dsk} {S : Sto} {n g : Int} (h : InvX D S n g) : OpenAt D S (filesS S.files) := HInv.opens (by rw [h.nn]; exact h.h)
theorem InvX.crash {D : Dsk} {S : Sto} {n g : Int} (h : InvX D S n g) (keep : List Bool) : InvX (crashD D keep) S n g :=
  ⟨h.nn, rfl, rfl, h.g0, h.g1, by show HInv (doSome D.held D.pend keep) S n; rw [h.pend, doSome_nil]; exact h.h⟩
theorem InvX.sz {D : Dsk} {S : Sto} {n g : Int} (h : InvX D S n g) : S.files.length ≤ 1000000 := by have := (rightS_le h.h.right).1; omega
theorem InvX.gb {D : Dsk} {S : Sto} {n g : Int} (h : InvX D S n g) (hg : g ≤ 999999) : 0 ≤ S.g0 ∧ S.g0 ≤ 999999 ∧ 0 ≤ S.g1 ∧ S.g1 ≤ 999999 := by
  have := h.h.hd; have := h.g0; have := h.g1; omega
theorem InvX.nb {D : Dsk} {S : Sto} {n g : Int} (h : InvX D S n g) (hn : 4 ≤ n ∧ n ≤ 4096) : 4 ≤ D.n ∧ D.n ≤ 4096 := by rw [h.nn]; exact hn
theorem InvX.pb {D : Dsk} {S : Sto} {n g : Int} (h : InvX D S n g) : D.pend.length ≤ 1000 := by rw [h.pend]; simp
theorem InvX.pb2 {D : Dsk} {S : Sto} {n g : Int} (h : InvX D S n g) : D.pend.length ≤ 1000000 := by rw [h.pend]; simp
/-- with nothing left to be done, nothing is -/
theorem com_dead {D : Dsk} {S : Sto} {n : Int} {l : List File} (hn : 4 ≤ n ∧ n ≤ 4096) (hD : D = ⟨true, 0, n, D.held, []⟩) (hr : rightS l = true) (hf : ¬ roomS n < (filesS l).length) : comS D S l = (⟨true, 0, n, D.held, []⟩, S, 8) := by
  have hN : D.n = n := by rw [hD]
  have ho : outD ⟨true, 0, n, D.held, []⟩ = true := rfl
  have hs : syncD ⟨true, 0, n, D.held, []⟩ = (⟨true, 0, n, D.held, []⟩, 8) := rfl
  have hfit : ((filesS l).length : Int) ≤ 64 * ((n - 2) / 2) := by rw [roomS_in hn] at hf; omega
  have hL : ∃ x, layS ⟨true, 0, n, D.held, []⟩ (1 - nowS S) (filesS l) = x ∧ x = (⟨true, 0, n, D.held, []⟩, 8) := by
    refine ⟨_, rfl, ?_⟩
    by_cases ht : (filesS l).length = 0
    · have h1 : layF ⟨true, 0, n, D.held, []⟩ (2 + (1 - nowS S) * ((n - 2) / 2)) ((filesS l).length + 1) 0 (filesS l) = (⟨true, 0, n, D.held, []⟩, 0) := layF_end ht (Nat.lt_succ_self _)
      rw [layS_ok (d := ⟨true, 0, n, D.held, []⟩) h1, hs]
    · have h0 := half_in (S := S) hn.1 hfit (j := 0) (by omega)
      have hin : 0 ≤ 2 + (1 - nowS S) * ((n - 2) / 2) + 0 ∧ 2 + (1 - nowS S) * ((n - 2) / 2) + 0 < n := by
        unfold InHalf at h0
        rcases nowS_01 S with e | e <;> rw [e] at h0 ⊢ <;> omega
      have hw : wrD ⟨true, 0, n, D.held, []⟩ (2 + (1 - nowS S) * ((n - 2) / 2) + 0) ((filesS l).take 64) = (⟨true, 0, n, D.held, []⟩, 8) := by
        rcases wrD_in (d := ⟨true, 0, n, D.held, []⟩) (i := 2 + (1 - nowS S) * ((n - 2) / 2) + 0) (s := (filesS l).take 64) hin (by rw [List.length_take]; omega) with ⟨h1, _⟩ | ⟨_, h2⟩
        · rw [h1]; rfl
        · rw [ho] at h2; cases h2
      have h1 := layF_err (d := ⟨true, 0, n, D.held, []⟩) (a := 2 + (1 - nowS S) * ((n - 2) / 2)) (i := 0) (k := (filesS l).length + 1) (u := filesS l) (by omega) (Nat.lt_succ_self _) (by rw [hw]; simp)
      rw [hw] at h1
      exact layS_err (d := ⟨true, 0, n, D.held, []⟩) (e := D) h1 (by simp)
  obtain ⟨x, hL, hx⟩ := hL
  rw [hx] at hL
  rw [hD, comS_lay (D := ⟨true, 0, n, D.held, []⟩) hr hf rfl (by rw [hL]; simp), hL]
theorem roomS_le (n : Int) : 0 ≤ roomS n ∧ roomS n ≤ 140000 := by unfold roomS; split <;> omega
/-! ### maps of few small files -/
theorem putFS_mem {m : List File} {f x : File} (h : x ∈ (putFS m f).1) : x = f ∨ x ∈ m := by
  unfold putFS at h
  split at h
  · cases h
  split at h
  · cases h
  · simp only [List.mem_append, List.mem_singleton] at h
    rcases h with (h | h) | h
    · exact .inr (dropS_mem ((List.takeWhile_sublist _).subset h)).1
    · exact .inl h
    · exact .inr (dropS_mem (List.mem_of_mem_drop h)).1
theorem putFS_len (m : List File) (f : File) : (putFS m f).1.length ≤ m.length + 1 := by
  unfold putFS
  split
  · simp
  split
  · simp
  · simp only [List.length_append, List.length_cons, List.length_nil, List.length_drop]
    have h1 := lessW_len (dropS m f.name) f.name
    have h2 := dropS_len m f.name
    omega
theorem mapF_small (long : Int) : ∀ (fs m : List File), (∀ x ∈ m, (x.text.length : Int) ≤ long) → 0 ≤ long → (mapF long m fs).length ≤ m.length + fs.length ∧ ∀ x ∈ mapF long m fs, (x.text.length : Int) ≤ long
  | [], m, h, _ => ⟨by simp [mapF], h⟩
  | f :: fs, m, h, h0 => by
    rw [mapF]
    split
    · have hm : ∀ x ∈ (putFS m ⟨f.name, f.text.take (min (f.text.length : Int) long).toNat⟩).1, (x.text.length : Int) ≤ long := fun x hx => by
        rcases putFS_mem hx with hx | hx
        · subst hx; dsimp only; rw [List.length_take]; omega
        · exact h x hx
      have ih := mapF_small long fs _ hm h0
      have := putFS_len m ⟨f.name, f.text.take (min (f.text.length : Int) long).toNat⟩
      refine ⟨?_, ih.2⟩
      have := ih.1
      simp only [List.length_cons]; omega
    · have ih := mapF_small long fs m h h0
      refine ⟨?_, ih.2⟩
      have := ih.1
      simp only [List.length_cons]; omega
theorem mapS_small (files : List File) {most long : Int} (h0 : 0 ≤ long) (hm : 0 ≤ most) : ((mapS files most long).length : Int) ≤ most ∧ ∀ x ∈ mapS files most long, (x.text.length : Int) ≤ long := by
  have := mapF_small long (files.take most.toNat) [] (fun x hx => by cases hx) h0
  refine ⟨?_, this.2⟩
  have h1 := this.1
  unfold mapS
  rw [List.length_take] at h1
  simp only [List.length_nil] at h1
  omega
theorem digits_two {n : Nat} (h : n ≤ 99) : (digitsS n).length ≤ 2 := by
  by_cases h1 : n < 10
  · rw [digitsS_small h1]; simp
  · rw [digitsS_big h1, digitsS_small (by omega)]; simp
theorem files_small : ∀ {l : List File}, (∀ x ∈ l, x.name.length ≤ 24 ∧ x.text.length ≤ 40) → (filesS l).length ≤ l.length * 72
  | [], _ => by simp [filesS]
  | x :: l, h => by
    have ih := files_small (l := l) fun y hy => h y (List.mem_cons_of_mem _ hy)
    have h1 := h x (List.mem_cons_self ..)
    have d1 := digits_two (n := x.name.length) (by omega)
    have d2 := digits_two (n := x.text.length) (by omega)
    have : filesS (x :: l) = putS x.name ++ putS x.text ++ filesS l := rfl
    rw [this]; simp only [putS, List.length_append, List.length_cons, List.length_nil]; omega
/-- such maps can be committed on 40 sectors -/
theorem map_may (files : List File) : rightS (mapS files 6 40) = true ∧ ¬ roomS 40 < (filesS (mapS files 6 40)).length ∧ mayD (mapS files 6 40) 40 = 0 := by
  have hr := mapS_right files 6 40
  have hs := mapS_small files (most := 6) (long := 40) (by decide) (by decide)
  have hb := rightS_le hr
  have hl := files_small (l := mapS files 6 40) fun x hx => ⟨(hb.2 x hx).1, by have := hs.2 x hx; omega⟩
  have hf : ¬ roomS 40 < (filesS (mapS files 6 40)).length := by rw [show roomS 40 = 1216 by decide]; omega
  exact ⟨hr, hf, by unfold mayD; rw [if_neg (by simp [hr]), if_neg hf]⟩
theorem map_sz (files : List File) (a b : Int) : (mapS files a b).length ≤ 1000000 ∧ ∀ x ∈ mapS files a b, x.name.length ≤ 9223372036854775807 ∧ x.text.length ≤ 9223372036854775807 := by
  have hb := rightS_le (mapS_right files a b)
  exact ⟨by omega, fun x hx => by have := hb.2 x hx; omega⟩
end Go.Stet
namespace Go.Stet
open Go Go.Eng
theorem com_fit {D : Dsk} {S : Sto} {g : Int} (h : InvX D S 40 g) (hg : g ≤ 999999) (files : List File) :
    ∃ D' S', comS D S (mapS files 6 40) = (D', S', 0) ∧ InvX D' S' 40 (g + 1) ∧ S'.files = mapS files 6 40 := by
  have h1 := com_inv h (by decide) hg (mapS files 6 40)
  have h2 := (map_may files).2.2
  refine ⟨(comS D S (mapS files 6 40)).1, (comS D S (mapS files 6 40)).2.1, ?_, h1.1, h1.2.2.1 (h1.2.1.trans h2)⟩
  have e : (comS D S (mapS files 6 40)).2.2 = 0 := h1.2.1.trans h2
  rw [← e]
theorem OpenAt.as {D D' : Dsk} {S : Sto} {T : Str} (h : OpenAt D S T) (hh : D'.held = D.held) (hn : D'.n = D.n) : OpenAt D' S T :=
  ⟨by rw [hh]; exact h.h0, by rw [hh]; exact h.h1, h.len, by rw [hh, hn]; exact h.lies, by rw [hn]; exact h.fits, h.small, h.files⟩
theorem dead_opens {f : Int → Option Wr} {S : Sto} (h : HInv f S 40) (keep : List Bool) : OpenAt (crashD ⟨true, 0, 40, f, []⟩ keep) S (filesS S.files) := by
  refine HInv.opens (D := crashD ⟨true, 0, 40, f, []⟩ keep) ?_
  show HInv (doSome f [] keep) S 40
  rw [doSome_nil]; exact h
theorem rooms_ok (k : Int) : roomS k ≤ roomS (k + 1) ∧ roomS (k + 2) ≤ roomS k + 64 := by
  unfold roomS; constructor <;> (split <;> split <;> omega)
end Go.Stet
