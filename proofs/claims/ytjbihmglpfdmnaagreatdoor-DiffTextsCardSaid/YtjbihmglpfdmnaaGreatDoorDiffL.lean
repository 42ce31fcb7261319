/- Contracts of bruitref50.one: what cuts a line, what puts one, what else there is. -/
import Derived.Test.YtjbihmglpfdmnaaGreatDoorDiffK
namespace Go.Proofs.YtjbihmglpfdmnaaGreatDoor
open Go Go.RowKit

theorem oneK3_none {t : List FileM} {e : EditM} (h : findT t e.name < 0) : oneK3 t e = ([], 6) := by unfold oneK3; rw [if_pos h]
theorem oneK3_bad {t : List FileM} {e : EditM} (h : ¬ findT t e.name < 0) (h' : e.at' < 0 ∨ ((wasL t e.name).length : Int) ≤ e.at') : oneK3 t e = ([], 6) := by unfold oneK3; rw [if_neg h, if_pos h']
theorem oneK3_ok {t : List FileM} {n s : ByteArray} {kd m k : Nat} {f : FileM} (h : findT t n = (k : Int)) (hf : t[k]? = some f) (hm : m < f.lines.length) : oneK3 t ⟨kd, n, (m : Int), s⟩ = (setL t k (f.lines.take m ++ f.lines.drop (m + 1)), 0) := by
  unfold oneK3; simp only; rw [if_neg (by omega), wasL_some h hf, if_neg (by omega), h]; simp
theorem oneK4_none {t : List FileM} {e : EditM} (h : findT t e.name < 0) : oneK4 t e = ([], 6) := by unfold oneK4; rw [if_pos h]
theorem oneK4_bad {t : List FileM} {e : EditM} (h : ¬ findT t e.name < 0) (h' : e.at' < 0 ∨ ((wasL t e.name).length : Int) < e.at') : oneK4 t e = ([], 1) := by unfold oneK4; rw [if_neg h, if_pos h']
theorem oneK4_form {t : List FileM} {n s : ByteArray} {kd m k : Nat} {f : FileM} (h : findT t n = (k : Int)) (hf : t[k]? = some f) (hm : m ≤ f.lines.length) (hl : lineOk s = false) : oneK4 t ⟨kd, n, (m : Int), s⟩ = ([], 4) := by
  unfold oneK4; simp only; rw [if_neg (by omega), wasL_some h hf, if_neg (by omega), if_pos hl]
theorem oneK4_full {t : List FileM} {n s : ByteArray} {kd m k : Nat} {f : FileM} (h : findT t n = (k : Int)) (hf : t[k]? = some f) (hm : m ≤ f.lines.length) (hl : lineOk s = true) (h60 : 60 ≤ f.lines.length) : oneK4 t ⟨kd, n, (m : Int), s⟩ = ([], 11) := by
  unfold oneK4; simp only; rw [if_neg (by omega), wasL_some h hf, if_neg (by omega), if_neg (by simp [hl]), if_pos h60]
theorem oneK4_ok {t : List FileM} {n s : ByteArray} {kd m k : Nat} {f : FileM} (h : findT t n = (k : Int)) (hf : t[k]? = some f) (hm : m ≤ f.lines.length) (hl : lineOk s = true) (h60 : ¬ 60 ≤ f.lines.length) : oneK4 t ⟨kd, n, (m : Int), s⟩ = (setL t k (f.lines.take m ++ s :: f.lines.drop m), 0) := by
  unfold oneK4; simp only; rw [if_neg (by omega), wasL_some h hf, if_neg (by omega), if_neg (by simp [hl]), if_neg h60, h]; simp

end Go.Proofs.YtjbihmglpfdmnaaGreatDoor
